/- What the functions of the kinds of plans return. Contracts of plan.Check and plan.Is. Plain maths: the next time of a plan; what the loops over times and spans do. -/
import Derived.Test.YtihadbkjfocdoaaGreatDoorPFi
import Derived.Test.YtihadbkjfocdoaaGreatDoorMWork
import Derived.Laws.EntriesVeiled
import Derived.Test.YtihadbkjfocdoaaGreatDoorPSp
namespace Go.Proofs.YtihadbkjfocdoaaGreatDoor.BW
open Go.RowKit BM Go.Shelf MC
open BK hiding ret_bool ret_i64

theorem kd_2_ok (p : Pl) (t : Int) (w : World) : Calls Tryz.prog 63 #[.agg (plV p), .int .i64 t] w fun r w' => r = .returned (.tuple #[.bool false, .int .i64 0]) ∧ Below w.heap.size w w' := by
  have HB := Lib.hid (show Below w.heap.size w (w.alloc (.cells (plV p) 52)) from (Below.refl _ w).alloc (Nat.le_refl _) _)
  unfold plV at *
  go_enter Tryz.func63, Tryz.ntmps63
  go_wp2_with fail
  go_ret2
  exact ⟨rfl, HB.out⟩
theorem kd_3_ok (p : Pl) (t : Int) (w : World) : Calls Tryz.prog 64 #[.agg (plV p), .int .i64 t] w fun r w' => r = .returned (.tuple #[.int .i64 0, .bool false, .int .i64 0]) ∧ Below w.heap.size w w' := by
  have HB := Lib.hid (show Below w.heap.size w (w.alloc (.cells (plV p) 52)) from (Below.refl _ w).alloc (Nat.le_refl _) _)
  unfold plV at *
  go_enter Tryz.func64, Tryz.ntmps64
  go_wp2_with fail
  go_ret3
  exact ⟨rfl, HB.out⟩
theorem kd_4_ok (p : Pl) (a b : Int) (w : World) : Calls Tryz.prog 65 #[.agg (plV p), .int .i64 a, .int .i64 b] w fun r w' => r = .returned (.tuple #[.int .i64 0, .int .i64 0]) ∧ Below w.heap.size w w' := by
  have HB := Lib.hid (show Below w.heap.size w (w.alloc (.cells (plV p) 52)) from (Below.refl _ w).alloc (Nat.le_refl _) _)
  unfold plV at *
  go_enter Tryz.func65, Tryz.ntmps65
  go_wp2_with fail
  go_ret2
  exact ⟨rfl, HB.out⟩
set_option maxRecDepth 8000 in
set_option maxHeartbeats 4000000 in
theorem kd_6_ok (p : Pl) (t : Int) (w : World) (hx : U64s p.x) (hT : SpTab w) (hTab : Tab w) : Calls Tryz.prog 69 #[.agg (plV p), .int .i64 t] w fun r w' => r = .returned (.tuple #[.bool (isV p.x p.z t), .int .i64 (chk p.x p.z [t])]) ∧ Below w.heap.size w w' := by
  have hB1 : Below w.heap.size w (w.alloc (.cells (plV p) 52)) := (Below.refl _ w).alloc (Nat.le_refl _) _
  have CX := Lib.hid (pis_ok p.x hx p.z t (w.alloc (.cells (plV p) 52)) (hT.below hB1) (tab_below hTab hB1 (World.block_lt_of_cell? w _ (hTab 0 (by decide)))))
  have HB1 := Lib.hid hB1
  generalize isV p.x p.z t = v1 at *
  generalize chk p.x p.z [t] = v2 at *
  clear hB1
  unfold exV at CX
  unfold plV at *
  go_enter Tryz.func69, Tryz.ntmps69
  go_wp2_with fail
  refine (CX.out).mono ?_
  rintro e_ w2 ⟨rfl, hb⟩
  have HB2 := Lib.hid (HB1.out.trans (Below.mono (w := w.alloc _) hb HB1.out.size))
  clear hb
  go_wp2_with fail
  go_ret2
  exact ⟨rfl, HB2.out⟩
set_option maxRecDepth 8000 in
set_option maxHeartbeats 4000000 in
theorem kd_7_ok (p : Pl) (t : Int) (w : World) (hx : U64s p.x) (hT : SpTab w) (hTab : Tab w) : Calls Tryz.prog 71 #[.agg (plV p), .int .i64 t] w fun r w' => r = .returned (.tuple #[.int .i64 (optI (nxV p.x p.z t)), .bool (nxV p.x p.z t).isSome, .int .i64 (chk p.x p.z [t])]) ∧ Below w.heap.size w w' := by
  have hB1 : Below w.heap.size w (w.alloc (.cells (plV p) 52)) := (Below.refl _ w).alloc (Nat.le_refl _) _
  have CX := Lib.hid (pnext_ok p.x hx p.z t (w.alloc (.cells (plV p) 52)) (hT.below hB1) (tab_below hTab hB1 (World.block_lt_of_cell? w _ (hTab 0 (by decide)))))
  have HB1 := Lib.hid hB1
  generalize (nxV p.x p.z t).isSome = v3 at *
  generalize optI (nxV p.x p.z t) = v1 at *
  generalize chk p.x p.z [t] = v2 at *
  clear hB1
  unfold exV at CX
  unfold plV at *
  go_enter Tryz.func71, Tryz.ntmps71
  go_wp2_with fail
  refine (CX.out).mono ?_
  rintro e_ w2 ⟨rfl, hb⟩
  have HB2 := Lib.hid (HB1.out.trans (Below.mono (w := w.alloc _) hb HB1.out.size))
  clear hb
  go_wp2_with fail
  go_ret3
  exact ⟨rfl, HB2.out⟩
set_option maxRecDepth 8000 in
set_option maxHeartbeats 4000000 in
theorem kd_8_ok (p : Pl) (a b : Int) (w : World) (hx : U64s p.x) (hT : SpTab w) : Calls Tryz.prog 73 #[.agg (plV p), .int .i64 a, .int .i64 b] w fun r w' => r = .returned (.tuple #[.int .i64 (ctR p.x p.z a b : Nat), .int .i64 (chk p.x p.z [a, b])]) ∧ Below w.heap.size w w' := by
  have hB1 : Below w.heap.size w (w.alloc (.cells (plV p) 52)) := (Below.refl _ w).alloc (Nat.le_refl _) _
  have CX := Lib.hid (pcount_ok p.x hx p.z a b (w.alloc (.cells (plV p) 52)) (hT.below hB1))
  have HB1 := Lib.hid hB1
  generalize (ctR p.x p.z a b : Int) = v1 at *
  generalize chk p.x p.z [a, b] = v2 at *
  clear hB1
  unfold exV at CX
  unfold plV at *
  go_enter Tryz.func73, Tryz.ntmps73
  go_wp2_with fail
  refine (CX.out).mono ?_
  rintro e_ w2 ⟨rfl, hb⟩
  have HB2 := Lib.hid (HB1.out.trans (Below.mono (w := w.alloc _) hb HB1.out.size))
  clear hb
  go_wp2_with fail
  go_ret2
  exact ⟨rfl, HB2.out⟩
set_option maxRecDepth 8000 in
set_option maxHeartbeats 4000000 in
theorem kd_10_ok (p : Pl) (t : Int) (w : World) : Calls Tryz.prog 77 #[.agg (plV p), .int .i64 t] w fun r w' => r = .returned (.tuple #[.bool (p.e.isV t), .int .i64 (p.e.ofE [t])]) ∧ Below w.heap.size w w' := by
  have hB1 : Below w.heap.size w (w.alloc (.cells (plV p) 52)) := (Below.refl _ w).alloc (Nat.le_refl _) _
  have CX := Lib.hid (eis_ok p.e t (w.alloc (.cells (plV p) 52)))
  have HB1 := Lib.hid hB1
  generalize p.e.isV t = v1 at *
  generalize p.e.ofE [t] = v2 at *
  clear hB1
  unfold evV at CX
  unfold plV at *
  go_enter Tryz.func77, Tryz.ntmps77
  go_wp2_with fail
  refine (CX.out).mono ?_
  rintro e_ w2 ⟨rfl, hb⟩
  have HB2 := Lib.hid (HB1.out.trans (Below.mono (w := w.alloc _) hb HB1.out.size))
  clear hb
  go_wp2_with fail
  go_ret2
  exact ⟨rfl, HB2.out⟩
set_option maxRecDepth 8000 in
set_option maxHeartbeats 4000000 in
theorem kd_11_ok (p : Pl) (t : Int) (w : World) : Calls Tryz.prog 79 #[.agg (plV p), .int .i64 t] w fun r w' => r = .returned (.tuple #[.int .i64 ((p.e.nxV t).getD 0), .bool (p.e.nxV t).isSome, .int .i64 (p.e.ofE [t])]) ∧ Below w.heap.size w w' := by
  have hB1 : Below w.heap.size w (w.alloc (.cells (plV p) 52)) := (Below.refl _ w).alloc (Nat.le_refl _) _
  have CX := Lib.hid (enext_ok p.e t (w.alloc (.cells (plV p) 52)))
  have HB1 := Lib.hid hB1
  generalize (p.e.nxV t).isSome = v3 at *
  generalize (p.e.nxV t).getD 0 = v1 at *
  generalize p.e.ofE [t] = v2 at *
  clear hB1
  unfold evV at CX
  unfold plV at *
  go_enter Tryz.func79, Tryz.ntmps79
  go_wp2_with fail
  refine (CX.out).mono ?_
  rintro e_ w2 ⟨rfl, hb⟩
  have HB2 := Lib.hid (HB1.out.trans (Below.mono (w := w.alloc _) hb HB1.out.size))
  clear hb
  go_wp2_with fail
  go_ret3
  exact ⟨rfl, HB2.out⟩
set_option maxRecDepth 8000 in
set_option maxHeartbeats 4000000 in
theorem kd_12_ok (p : Pl) (a b : Int) (w : World) : Calls Tryz.prog 81 #[.agg (plV p), .int .i64 a, .int .i64 b] w fun r w' => r = .returned (.tuple #[.int .i64 (p.e.ctV a b), .int .i64 (p.e.ofE [a, b])]) ∧ Below w.heap.size w w' := by
  have hB1 : Below w.heap.size w (w.alloc (.cells (plV p) 52)) := (Below.refl _ w).alloc (Nat.le_refl _) _
  have CX := Lib.hid (ecount_ok p.e a b (w.alloc (.cells (plV p) 52)))
  have HB1 := Lib.hid hB1
  generalize p.e.ctV a b = v1 at *
  generalize p.e.ofE [a, b] = v2 at *
  clear hB1
  unfold evV at CX
  unfold plV at *
  go_enter Tryz.func81, Tryz.ntmps81
  go_wp2_with fail
  refine (CX.out).mono ?_
  rintro e_ w2 ⟨rfl, hb⟩
  have HB2 := Lib.hid (HB1.out.trans (Below.mono (w := w.alloc _) hb HB1.out.size))
  clear hb
  go_wp2_with fail
  go_ret2
  exact ⟨rfl, HB2.out⟩
/-- The functions of a valid plan's kind. -/
structure KFn (p : Pl) (f1 f2 f3 : Nat) : Prop where
  e1 : ∀ args w, (callFunc f1 args).run Tryz.prog w = .ok (.enter f1 args) w
  e2 : ∀ args w, (callFunc f2 args).run Tryz.prog w = .ok (.enter f2 args) w
  e3 : ∀ args w, (callFunc f3 args).run Tryz.prog w = .ok (.enter f3 args) w
  c1 : ∀ t w, 0 ≤ t ∧ t ≤ 253402300799 → SpTab w → Tab w → Calls Tryz.prog f1 #[.agg (plV p), .int .i64 t] w fun r w' => r = .returned (.tuple #[.bool (qK p t), .int .i64 0]) ∧ Below w.heap.size w w'
  c2 : ∀ t w, 0 ≤ t ∧ t ≤ 253402300799 → SpTab w → Tab w → Calls Tryz.prog f2 #[.agg (plV p), .int .i64 t] w fun r w' => r = .returned (.tuple #[.int .i64 (optI (nxP (qK p) t)), .bool (nxP (qK p) t).isSome, .int .i64 0]) ∧ Below w.heap.size w w'
  c3 : ∀ a b w, 0 ≤ a ∧ a ≤ 253402300799 → 0 ≤ b ∧ b ≤ 253402300799 → SpTab w → Tab w → Calls Tryz.prog f3 #[.agg (plV p), .int .i64 a, .int .i64 b] w fun r w' => r = .returned (.tuple #[.int .i64 (ctP (qK p) a b), .int .i64 0]) ∧ Below w.heap.size w w'
theorem err_ok {e : Ev} (h : e.err = 0) : e.ok = true := by
  unfold Ev.err at h
  by_cases hh : e.ok = true
  · exact hh
  · rw [if_neg hh] at h; cases h
theorem kfn_ok (p : Pl) (hx : U64s p.x) (hv : plK p = true) : ∃ f0 f1 f2 f3 : Nat, kdV p.k = #[.func (.func f0) #[] #[], .func (.func f1) #[] #[], .func (.func f2) #[] #[], .func (.func f3) #[] #[]] ∧ KFn p f1 f2 f3 := by
  unfold plK at hv
  by_cases h0 : p.k = 0
  · have hq : qK p = fun _ => false := by
      funext t
      unfold qK
      rw [if_neg (by omega), if_neg (by omega)]
    refine ⟨_, 63, 64, 65, by unfold kdV; rw [if_pos h0]; rfl, enters_of Tryz.func63 (by kernel_rfl) rfl, enters_of Tryz.func64 (by kernel_rfl) rfl, enters_of Tryz.func65 (by kernel_rfl) rfl, ?_, ?_, ?_⟩
    · intro t w _ _ _
      rw [hq]
      exact kd_2_ok p t w
    · intro t w _ _ _
      have : nxP (qK p) t = none := by rw [hq]; unfold nxP; rw [tmsP_nil (fun _ _ _ => rfl)]; rfl
      rw [this]
      exact kd_3_ok p t w
    · intro a b w _ _ _ _
      have : ctP (qK p) a b = 0 := by rw [hq]; exact ctP_nil (fun _ _ _ => rfl)
      rw [this]
      exact kd_4_ok p a b w
  · rw [if_neg h0] at hv
    by_cases h1 : p.k = 1
    · rw [if_pos h1] at hv
      simp only [Bool.and_eq_true, decide_eq_true_eq] at hv
      obtain ⟨⟨_, hc⟩, hz⟩ := hv
      have hq : qK p = At p.x p.z := by
        funext t
        unfold qK
        rw [if_pos h1]
      have k1 : ∀ t, 0 ≤ t ∧ t ≤ 253402300799 → chk p.x p.z [t] = 0 := fun t ht => (chk_times hc hz).trans (timesR_one ht)
      have k2 : ∀ a b, 0 ≤ a ∧ a ≤ 253402300799 → 0 ≤ b ∧ b ≤ 253402300799 → chk p.x p.z [a, b] = 0 := fun a b ha hb => (chk_times hc hz).trans (timesR_two ha hb)
      refine ⟨_, 69, 71, 73, by unfold kdV; rw [if_neg h0, if_pos h1]; rfl, enters_of Tryz.func69 (by kernel_rfl) rfl, enters_of Tryz.func71 (by kernel_rfl) rfl, enters_of Tryz.func73 (by kernel_rfl) rfl, ?_, ?_, ?_⟩
      · intro t w ht hT hTab
        have := kd_6_ok p t w hx hT hTab
        rwa [k1 t ht, isV_At (k1 t ht), ← hq] at this
      · intro t w ht hT hTab
        have := kd_7_ok p t w hx hT hTab
        rwa [k1 t ht, nxV_eq (k1 t ht), ← hq] at this
      · intro a b w ha hb hT _
        have := kd_8_ok p a b w hx hT
        rwa [k2 a b ha hb, ctR_eq (k2 a b ha hb), ← hq] at this
    · rw [if_neg h1] at hv
      by_cases h2 : p.k = 2
      · rw [if_pos h2] at hv
        simp only [Bool.and_eq_true, decide_eq_true_eq] at hv
        have hok := err_ok hv.2
        have hq : qK p = p.e.has := by
          funext t
          unfold qK
          rw [if_neg h1, if_pos h2]
        have k1 : ∀ t, 0 ≤ t ∧ t ≤ 253402300799 → p.e.ofE [t] = 0 := fun t ht => by unfold Ev.ofE; rw [if_pos hok, timesR_one ht]
        have k2 : ∀ a b, 0 ≤ a ∧ a ≤ 253402300799 → 0 ≤ b ∧ b ≤ 253402300799 → p.e.ofE [a, b] = 0 := fun a b ha hb => by unfold Ev.ofE; rw [if_pos hok, timesR_two ha hb]
        have hOk := Ev.ok_iff.1 hok
        refine ⟨_, 77, 79, 81, by unfold kdV; rw [if_neg h0, if_neg h1, if_pos h2]; rfl, enters_of Tryz.func77 (by kernel_rfl) rfl, enters_of Tryz.func79 (by kernel_rfl) rfl, enters_of Tryz.func81 (by kernel_rfl) rfl, ?_, ?_, ?_⟩
        · intro t w ht _ _
          have := kd_10_ok p t w
          rwa [k1 t ht, Ev.isV_eq (k1 t ht), ← hq] at this
        · intro t w ht _ _
          have := kd_11_ok p t w
          rw [k1 t ht, Ev.nxV_eq hOk (k1 t ht), ← hq] at this
          exact this
        · intro a b w ha hb _ _
          have := kd_12_ok p a b w
          rwa [k2 a b ha hb, Ev.ctV_eq hOk (k2 a b ha hb), ← hq] at this
      · rw [if_neg h2] at hv; cases hv
end Go.Proofs.YtihadbkjfocdoaaGreatDoor.BW
namespace Go.Proofs.YtihadbkjfocdoaaGreatDoor.BW
open Go.RowKit BM Go.Shelf MC
open BK hiding ret_bool ret_i64

/-- A plan that is handed over. -/
structure PArg (w : World) (p : Pl) (l : List (Int × Int)) : Prop where
  x : U64s p.x
  n : l.length = p.n
  n9 : p.n < 9223372036854775807
  at_ : SpansAt w p.a l
  sp : SpTab w
  tab : Tab w
theorem PArg.below {w w' : World} {p : Pl} {l : List (Int × Int)} (h : PArg w p l) (hb : Below w.heap.size w w') : PArg w' p l :=
  ⟨h.x, h.n, h.n9, h.at_.below hb, h.sp.below hb, tab_below h.tab hb (World.block_lt_of_cell? w _ (h.tab 0 (by decide)))⟩
/-- Whether a plan has a time. -/
noncomputable def isP (p : Pl) (l : List (Int × Int)) (t : Int) : Bool := qK p t && !l.any (inS t)
theorem plE_cases (p : Pl) (l : List (Int × Int)) : plE p l = 0 ∨ plE p l = 16 := by unfold plE; split <;> simp
theorem plE_ok {p : Pl} {l : List (Int × Int)} (h : plE p l = 0) : plK p = true ∧ spE l = 0 := by
  unfold plE at h
  split at h
  · rename_i h2
    simpa using h2
  · cases h
theorem finE_nil (p : Pl) (l : List (Int × Int)) : finE p l [] = plE p l := by
  unfold finE
  rcases plE_cases p l with h | h
  · rw [h]; rfl
  · rw [h]; rfl
theorem finE_ok {p : Pl} {l : List (Int × Int)} {ts : List Int} (h : finE p l ts = 0) : plK p = true ∧ spE l = 0 ∧ ∀ t ∈ ts, 0 ≤ t ∧ t ≤ 253402300799 := by
  unfold finE at h
  split at h
  · rename_i h2
    obtain ⟨h3, h4⟩ := plE_ok h2
    refine ⟨h3, h4, fun t ht => ?_⟩
    unfold timesR at h
    split at h
    · rename_i h5
      have := List.all_eq_true.1 h5 t ht
      unfold tOk at this
      simpa using this
    · cases h
  · cases h
theorem finV_bad {p : Pl} {l : List (Int × Int)} {ts : List Int} (h : finE p l ts ≠ 0) : finV p l ts = #[.nilFunc, .nilFunc, .nilFunc, .nilFunc] := by
  unfold finV
  rw [if_neg h]; rfl
theorem finV_ok {p : Pl} {l : List (Int × Int)} {ts : List Int} (h : finE p l ts = 0) : finV p l ts = kdV p.k := by
  unfold finV
  rw [if_pos h]
set_option maxRecDepth 8000 in
set_option maxHeartbeats 4000000 in
theorem plcheck_ok (p : Pl) (l : List (Int × Int)) (w : World) (h : PArg w p l) : Calls Tryz.prog 40 #[.agg (plV p)] w fun r w' => r = .returned (.int .i64 (plE p l)) ∧ Below w.heap.size w w' := by
  have hB1 : Below w.heap.size w (w.alloc (.cells (plV p) 52)) := (Below.refl _ w).alloc (Nat.le_refl _) _
  have CF := Lib.hid (find_ok p h.x l h.n h.n9 [] none 0 0 rfl (by decide) (w.alloc (.cells (plV p) 52)) (h.sp.below hB1) (h.at_.below hB1) (fun k hk => absurd hk (by simp)))
  have HB1 := Lib.hid hB1
  rw [finE_nil] at CF
  have HVK := Lib.hid (fun hh : plE p l = 0 => kfn_ok p h.x (plE_ok hh).1)
  have HV1 := Lib.hid (fun hh : plE p l = 0 => finV_ok (ts := []) ((finE_nil p l).trans hh))
  have HV2 := Lib.hid (fun hh : plE p l ≠ 0 => finV_bad (ts := []) (fun h3 => hh ((finE_nil p l).symm.trans h3)))
  generalize finV p l [] = V at *
  clear h hB1
  unfold plV at *
  by_cases hE : plE p l = 0
  · obtain ⟨f0, f1, f2, f3, hk, _⟩ := HVK.out hE
    obtain rfl : V = _ := (HV1.out hE).trans hk
    generalize plE p l = E at *
    clear HVK HV1 HV2 hk hE
    go_enter Tryz.func40, Tryz.ntmps40
    go_wp2_with fail
    refine (CF.out).mono ?_
    rintro e_ w2 ⟨rfl, hb⟩
    have HB2 := Lib.hid (HB1.out.trans (Below.mono (w := w.alloc _) hb HB1.out.size))
    clear hb CF HB1
    go_wp2_with fail
    go_ret
    exact ⟨rfl, HB2.out.alloc HB2.out.size _⟩
  · obtain rfl : V = _ := HV2.out hE
    generalize plE p l = E at *
    clear HVK HV1 HV2 hE
    go_enter Tryz.func40, Tryz.ntmps40
    go_wp2_with fail
    refine (CF.out).mono ?_
    rintro e_ w2 ⟨rfl, hb⟩
    have HB2 := Lib.hid (HB1.out.trans (Below.mono (w := w.alloc _) hb HB1.out.size))
    clear hb CF HB1
    go_wp2_with fail
    go_ret
    exact ⟨rfl, HB2.out.alloc HB2.out.size _⟩
set_option maxRecDepth 8000 in
set_option maxHeartbeats 4000000 in
theorem plis_ok (p : Pl) (l : List (Int × Int)) (t : Int) (w : World) (h : PArg w p l) : Calls Tryz.prog 41 #[.agg (plV p), .int .i64 t] w fun r w' => r = .returned (.tuple #[.bool (decide (finE p l [t] = 0) && isP p l t), .int .i64 (finE p l [t])]) ∧ Below w.heap.size w w' := by
  obtain ⟨W1, hW1⟩ : ∃ W1, W1 = (w.alloc (.cells (plV p) 52)).alloc (.cells #[.int .i64 t] 2) := ⟨_, rfl⟩
  have hB1 : Below w.heap.size w W1 := by rw [hW1]; exact ((Below.refl _ w).alloc (Nat.le_refl _) _).alloc (by simp) _
  have hbx : Blk W1 w.heap.size 52 (plV p) := by rw [hW1]; exact (Blk.new w _ _).alloc _
  have hts : Blk W1 (w.heap.size + 1) 2 #[.int .i64 t] := by rw [hW1]; exact Blk.newAt (by simp)
  have CF := Lib.hid (find_ok p h.x l h.n h.n9 [t] (some ⟨w.heap.size + 1, 0, none⟩) 1 1 rfl (by decide) W1 (h.sp.below hB1) (h.at_.below hB1) (fun k hk => by
    have : k = 0 := by simpa using hk
    subst this; exact ⟨_, _, rfl, hts.cell 0⟩))
  have HP := Lib.hid h
  have HW1 := Lib.hid hW1
  have HSZ := Lib.hid (show W1.heap.size = w.heap.size + 2 by rw [hW1]; simp)
  have HVK := Lib.hid (fun hh : finE p l [t] = 0 => kfn_ok p h.x (finE_ok hh).1)
  have HVT := Lib.hid (fun hh : finE p l [t] = 0 => (finE_ok hh).2)
  have HV1 := Lib.hid (fun hh : finE p l [t] = 0 => finV_ok (ts := [t]) hh)
  have HV2 := Lib.hid (fun hh : finE p l [t] ≠ 0 => finV_bad (ts := [t]) hh)
  have HI : Hid (isP p l t = (qK p t && !l.any (inS t))) := Lib.hid rfl
  obtain ⟨R, hR⟩ : ∃ R, (decide (finE p l [t] = 0) && isP p l t) = R := ⟨_, rfl⟩
  rw [hR]
  have HR0 := Lib.hid hR
  rw [hW1] at CF
  generalize finV p l [t] = V at *
  clear h hW1 hts hR
  unfold plV at CF ⊢
  by_cases hE : finE p l [t] = 0
  · obtain ⟨f0, f1, f2, f3, hk, hkf⟩ := HVK.out hE
    obtain ⟨hs, ht⟩ := HVT.out hE
    obtain rfl : V = _ := (HV1.out hE).trans hk
    have ht := ht t (by simp)
    have HIN : Hid (inV l t = l.any (inS t) ∧ inE l t = 0) := Lib.hid (by
      have : vT t = true := by unfold vT; simp; omega
      have e : inE l t = 0 := by unfold inE; rw [if_pos hs, if_pos this]
      exact ⟨by unfold inV; rw [e]; rfl, e⟩)
    have E1 := hkf.e1
    have HF := Lib.hid hkf
    have HT := Lib.hid ht
    have CI := Lib.hid (fun W (hw : Below w.heap.size w W) => bin_ok l p.a p.n p.c t HP.out.n HP.out.n9 W (HP.out.at_.below hw))
    rw [HIN.out.1, HIN.out.2] at CI
    have HR : Hid (R = (qK p t && !l.any (inS t))) := Lib.hid (by rw [← HR0.out, decide_eq_true hE, HI.out]; rfl)
    rw [hE] at CF
    rw [hE]
    have CQ := Lib.hid (fun W (hw : Below w.heap.size w W) => hkf.c1 t W ht (HP.out.sp.below hw) (HP.out.below hw).tab)
    generalize l.any (inS t) = y at *
    generalize qK p t = q at *
    unfold plV at CQ hbx
    clear HVK HV1 HV2 hk hE hs hkf HIN HI HVT HR0
    go_enter Tryz.func41, Tryz.ntmps41
    go_wp2_with fail
    refine (CF.out).mono ?_
    rintro e_ w2 ⟨rfl, hb⟩
    have hb : Below W1.heap.size W1 w2 := by rw [HW1.out]; exact hb
    have hbx2 := hbx.below hb hbx.lt
    have HB2 := Lib.hid (hB1.trans (hb.mono hB1.size))
    have HX2 := Lib.hid hbx2
    have hlt : w.heap.size < w2.heap.size := hbx2.lt
    have hne : ¬ w.heap.size = w2.heap.size := by omega
    have hne' : ¬ w2.heap.size = w.heap.size := by omega
    have c0 : w2.cell? ⟨w.heap.size, 0, none⟩ = some (.int .i64 p.k) := hbx2.cell 0
    have c1 : w2.cell? ⟨w.heap.size, 1, none⟩ = some (.int .u64 p.x.s) := hbx2.cell 1
    have c2 : w2.cell? ⟨w.heap.size, 2, none⟩ = some (.int .u64 p.x.mi) := hbx2.cell 2
    have c3 : w2.cell? ⟨w.heap.size, 3, none⟩ = some (.int .u64 p.x.h) := hbx2.cell 3
    have c4 : w2.cell? ⟨w.heap.size, 4, none⟩ = some (.int .u64 p.x.d) := hbx2.cell 4
    have c5 : w2.cell? ⟨w.heap.size, 5, none⟩ = some (.int .u64 p.x.mo) := hbx2.cell 5
    have c6 : w2.cell? ⟨w.heap.size, 6, none⟩ = some (.int .u64 p.x.w) := hbx2.cell 6
    have c7 : w2.cell? ⟨w.heap.size, 7, none⟩ = some (.bool p.x.ad) := hbx2.cell 7
    have c8 : w2.cell? ⟨w.heap.size, 8, none⟩ = some (.bool p.x.aw) := hbx2.cell 8
    have c9 : w2.cell? ⟨w.heap.size, 9, none⟩ = some (.int .i64 p.z) := hbx2.cell 9
    have c10 : w2.cell? ⟨w.heap.size, 10, none⟩ = some (.int .i64 p.e.s) := hbx2.cell 10
    have c11 : w2.cell? ⟨w.heap.size, 11, none⟩ = some (.int .i64 p.e.p) := hbx2.cell 11
    have c12 : w2.cell? ⟨w.heap.size, 12, none⟩ = some (.int .i64 p.e.c) := hbx2.cell 12
    have c13 : w2.cell? ⟨w.heap.size, 13, none⟩ = some (.slice p.a p.n p.c) := hbx2.cell 13
    clear hb CF hbx hbx2 hB1
    go_wp2_with fail
    have hb3 := HB2.out.alloc HB2.out.size (.cells #[.func (.func f0) #[] #[], .func (.func f1) #[] #[], .func (.func f2) #[] #[], .func (.func f3) #[] #[]] 91)
    have hk3 := Blk.new w2 91 #[.func (.func f0) #[] #[], .func (.func f1) #[] #[], .func (.func f2) #[] #[], .func (.func f3) #[] #[]]
    have hx3 := HX2.out.alloc (.cells #[.func (.func f0) #[] #[], .func (.func f1) #[] #[], .func (.func f2) #[] #[], .func (.func f3) #[] #[]] 91)
    refine (CI.out _ hb3).mono ?_
    rintro e_ w3 ⟨rfl, hb⟩
    have HB3 := Lib.hid (hb3.trans (Below.mono (w := w2.alloc _) hb hb3.size))
    have hk3 := hk3.below hb hk3.lt
    have hx3 := hx3.below hb hx3.lt
    have fn1 : w3.cell? ⟨w2.heap.size, 1, none⟩ = some (.func (.func f1) #[] #[]) := hk3.cell 1
    have e0 : w3.cell? ⟨w.heap.size, 0, none⟩ = some (.int .i64 p.k) := hx3.cell 0
    have e1 : w3.cell? ⟨w.heap.size, 1, none⟩ = some (.int .u64 p.x.s) := hx3.cell 1
    have e2 : w3.cell? ⟨w.heap.size, 2, none⟩ = some (.int .u64 p.x.mi) := hx3.cell 2
    have e3 : w3.cell? ⟨w.heap.size, 3, none⟩ = some (.int .u64 p.x.h) := hx3.cell 3
    have e4 : w3.cell? ⟨w.heap.size, 4, none⟩ = some (.int .u64 p.x.d) := hx3.cell 4
    have e5 : w3.cell? ⟨w.heap.size, 5, none⟩ = some (.int .u64 p.x.mo) := hx3.cell 5
    have e6 : w3.cell? ⟨w.heap.size, 6, none⟩ = some (.int .u64 p.x.w) := hx3.cell 6
    have e7 : w3.cell? ⟨w.heap.size, 7, none⟩ = some (.bool p.x.ad) := hx3.cell 7
    have e8 : w3.cell? ⟨w.heap.size, 8, none⟩ = some (.bool p.x.aw) := hx3.cell 8
    have e9 : w3.cell? ⟨w.heap.size, 9, none⟩ = some (.int .i64 p.z) := hx3.cell 9
    have e10 : w3.cell? ⟨w.heap.size, 10, none⟩ = some (.int .i64 p.e.s) := hx3.cell 10
    have e11 : w3.cell? ⟨w.heap.size, 11, none⟩ = some (.int .i64 p.e.p) := hx3.cell 11
    have e12 : w3.cell? ⟨w.heap.size, 12, none⟩ = some (.int .i64 p.e.c) := hx3.cell 12
    have e13 : w3.cell? ⟨w.heap.size, 13, none⟩ = some (.slice p.a p.n p.c) := hx3.cell 13
    clear hb hb3 hk3 hx3 c0 c1 c2 c3 c4 c5 c6 c7 c8 c9 c10 c11 c12 c13 CI HX2
    go_wp2_with fail
    refine (CQ.out _ HB3.out).mono ?_
    rintro e_ w4 ⟨rfl, hb⟩
    have HB4 := Lib.hid (HB3.out.trans (hb.mono HB3.out.size))
    clear hb
    go_wp2_with fail
    all_goals
      go_ret2
      exact ⟨ret_beX (by rw [HR.out]; simp_all) rfl, HB4.out⟩
  · obtain rfl : V = _ := HV2.out hE
    have HR : Hid (R = false) := Lib.hid (by rw [← HR0.out, decide_eq_false hE]; rfl)
    have hne : (finE p l [t] == 0) = false := by rw [beq_eq_false_iff_ne]; exact hE
    have hne' : (finE p l [t] != 0) = true := by rw [bne, hne]; rfl
    clear HR0
    generalize finE p l [t] = E at *
    clear HVK HV1 HV2 hE HVT HI HP hbx
    go_enter Tryz.func41, Tryz.ntmps41
    go_wp2_with fail
    refine (CF.out).mono ?_
    rintro e_ w2 ⟨rfl, hb⟩
    have hb : Below W1.heap.size W1 w2 := by rw [HW1.out]; exact hb
    have HB2 := Lib.hid (hB1.trans (hb.mono hB1.size))
    clear hb CF hB1
    go_wp2_with fail
    go_ret2
    exact ⟨ret_beX HR.out.symm rfl, HB2.out.alloc HB2.out.size _⟩
end Go.Proofs.YtihadbkjfocdoaaGreatDoor.BW
namespace Go.Proofs.YtihadbkjfocdoaaGreatDoor.BW
open Go.RowKit BM Go.Shelf MC
open BK hiding ret_bool ret_i64

/-- The first time from one on. -/
def frP (q : Int → Bool) (a : Int) : Option Int := (tmsP q a 253402300799).head?
theorem nxP_fr (q : Int → Bool) (t : Int) : nxP q t = frP q (t + 1) := rfl
theorem frP_some {q : Int → Bool} {a n : Int} : frP q a = some n ↔ (a ≤ n ∧ n ≤ 253402300799 ∧ q n = true) ∧ ∀ m, a ≤ m → m < n → q m = false := by
  unfold frP
  rw [head_some tmsP_inc, tmsP_mem]
  constructor
  · rintro ⟨h1, h2⟩
    refine ⟨h1, fun m m1 m2 => ?_⟩
    rw [← Bool.not_eq_true]
    intro hm
    have := h2 m (tmsP_mem.2 ⟨m1, by omega, hm⟩)
    omega
  · rintro ⟨h1, h2⟩
    refine ⟨h1, fun m hm => ?_⟩
    obtain ⟨m1, m2, m3⟩ := tmsP_mem.1 hm
    rcases Int.lt_or_le m n with h | h
    · rw [h2 m m1 h] at m3; cases m3
    · exact h
theorem frP_none {q : Int → Bool} {a : Int} : frP q a = none ↔ ∀ m, a ≤ m → m ≤ 253402300799 → q m = false := by
  unfold frP
  rw [List.head?_eq_none_iff]
  constructor
  · intro h m m1 m2
    rw [← Bool.not_eq_true]
    intro hm
    have := tmsP_mem.2 ⟨m1, m2, hm⟩
    rw [h] at this; cases this
  · exact fun h => tmsP_nil h
theorem frP_hit {q : Int → Bool} {a : Int} (h : q a = true) (ha : a ≤ 253402300799) : frP q a = some a :=
  frP_some.2 ⟨⟨Int.le_refl _, ha, h⟩, fun m m1 m2 => by omega⟩
theorem frP_miss {q : Int → Bool} {a : Int} (h : q a = false) : frP q a = nxP q a := by
  unfold nxP frP
  rw [tmsP_skip (c := a + 1) (fun t h1 h2 _ => by rw [show t = a by omega]; exact h) (by omega)]
theorem isP_in {p : Pl} {l : List (Int × Int)} {t : Int} (h : l.any (inS t) = true) : isP p l t = false := by unfold isP; rw [h]; simp
theorem isP_no {p : Pl} {l : List (Int × Int)} {t : Int} (h : qK p t = false) : isP p l t = false := by unfold isP; rw [h]; rfl
theorem isP_yes {p : Pl} {l : List (Int × Int)} {t : Int} (h : qK p t = true) (h2 : l.any (inS t) = false) : isP p l t = true := by unfold isP; rw [h, h2]; rfl
theorem nx_none {p : Pl} {l : List (Int × Int)} {t : Int} (h : nxP (qK p) t = none) : nxP (isP p l) t = none :=
  frP_none.2 fun m m1 m2 => isP_no (frP_none.1 h m m1 m2)
/-! ### the iterator -/
theorem ti_none {p : Pl} {l : List (Int × Int)} {f : Int} (h : frP (qK p) f = none) : tmsP (isP p l) f 253402300799 = [] :=
  tmsP_nil fun m m1 m2 => isP_no (frP_none.1 h m m1 m2)
theorem ti_shut {p : Pl} {l : List (Int × Int)} {f n : Int} (h : frP (qK p) f = some n) (h2 : frP (fun s => !l.any (inS s)) n = none) : tmsP (isP p l) f 253402300799 = [] :=
  tmsP_nil fun m m1 m2 => by
    rcases Int.lt_or_le m n with h5 | h5
    · exact isP_no ((frP_some.1 h).2 m m1 h5)
    · exact isP_in (by simpa using frP_none.1 h2 m h5 m2)
theorem ti_free {p : Pl} {l : List (Int × Int)} {f n r : Int} (h : frP (qK p) f = some n) (h2 : frP (fun s => !l.any (inS s)) n = some r) : tmsP (isP p l) f 253402300799 = tmsP (isP p l) r 253402300799 := by
  have h1 := (frP_some.1 h).1.1
  have h3 := (frP_some.1 h2).1.1
  refine tmsP_skip (fun m m1 m2 _ => ?_) (by omega)
  rcases Int.lt_or_le m n with h5 | h5
  · exact isP_no ((frP_some.1 h).2 m m1 h5)
  · exact isP_in (by simpa using (frP_some.1 h2).2 m h5 m2)
theorem ti_hit {p : Pl} {l : List (Int × Int)} {f n : Int} (h : frP (qK p) f = some n) (h2 : frP (fun s => !l.any (inS s)) n = some n) : tmsP (isP p l) f 253402300799 = n :: tmsP (isP p l) (n + 1) 253402300799 := by
  rw [ti_free h h2]
  obtain ⟨⟨_, h4, h5⟩, _⟩ := frP_some.1 h
  exact tmsP_cons (isP_yes h5 (by simpa using (frP_some.1 h2).1.2.2)) h4
/-! ### lists -/
/-! ### numbers -/
/-- Where the first time that no span has is looked for, by a normal list. -/
def fvN (out : List (Int × Int)) (t : Int) : Int := match out.find? (inS t) with
  | some u => u.2 + 1
  | none => t
theorem fvN_free {l out : List (Int × Int)} (h : NormS (fun s => l.any (inS s) || [].any (inS s)) (-1) 0 out) {t : Int} (ht : 0 ≤ t) : t ≤ fvN out t ∧ l.any (inS (fvN out t)) = false ∧ ∀ s, t ≤ s → s < fvN out t → l.any (inS s) = true := by
  have hP : ∀ s, (l.any (inS s) || ([] : List (Int × Int)).any (inS s)) = l.any (inS s) := fun s => by simp
  unfold fvN
  cases hf : out.find? (inS t) with
  | some u =>
    have hu := List.mem_of_find?_eq_some hf
    have hi := List.find?_some hf
    unfold inS at hi
    simp only [Bool.and_eq_true, decide_eq_true_eq] at hi
    obtain ⟨h1, h2, h3, h4, h5⟩ := h.sp u hu
    refine ⟨by simp; omega, ?_, fun s s1 s2 => ?_⟩
    · have := h4; rw [hP] at this; exact this
    · have s2 : s < u.2 + 1 := s2
      have := h5 s (by omega) (by omega) (by omega)
      rw [hP] at this; exact this
  | none =>
    refine ⟨Int.le_refl _, ?_, fun s s1 s2 => absurd (show s < t from s2) (by omega)⟩
    show l.any (inS t) = false
    rw [← Bool.not_eq_true]
    intro hh
    obtain ⟨u, hu, h2, h3⟩ := h.all t (by omega) (by rw [hP]; exact hh)
    have := List.find?_eq_none.1 hf u hu
    unfold inS at this
    simp only [Bool.and_eq_true, decide_eq_true_eq] at this
    exact this ⟨h2, h3⟩
theorem fvN_some {l out : List (Int × Int)} (h : NormS (fun s => l.any (inS s) || [].any (inS s)) (-1) 0 out) {t : Int} (ht : 0 ≤ t) (hv : fvN out t ≤ 253402300799) : frP (fun s => !l.any (inS s)) t = some (fvN out t) := by
  obtain ⟨h1, h2, h3⟩ := fvN_free h ht
  exact frP_some.2 ⟨⟨h1, hv, by simp [h2]⟩, fun m m1 m2 => by simp [h3 m m1 m2]⟩
theorem fvN_none {l out : List (Int × Int)} (h : NormS (fun s => l.any (inS s) || [].any (inS s)) (-1) 0 out) {t : Int} (ht : 0 ≤ t) (hv : 253402300799 < fvN out t) : frP (fun s => !l.any (inS s)) t = none := by
  obtain ⟨h1, h2, h3⟩ := fvN_free h ht
  exact frP_none.2 fun m m1 m2 => by simp [h3 m m1 (by omega)]
end Go.Proofs.YtihadbkjfocdoaaGreatDoor.BW
