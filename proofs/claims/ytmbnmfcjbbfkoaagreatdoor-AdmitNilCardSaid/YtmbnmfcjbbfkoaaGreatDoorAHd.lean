/- Gates that are nil or zero, and the walk of wakemanlaw35.AdmitNil. -/
import Derived.Test.YtmbnmfcjbbfkoaaGreatDoorAHc
namespace Go.Proofs.YtmbnmfcjbbfkoaaGreatDoor.AD
open Go Go.RowKit BW
open BK (Bx BoxAt Blk only_refl only_drew only_drewN only_setCell only_trans only_of_below only_alloc below_drewN)
/-- A gate that no New has returned. -/
def Nul (w : World) (v : Value) : Prop := v = .pointer none ∨ ∃ b, v = .pointer (some ⟨b, 0, none⟩) ∧ Blk w b 119 #[.pointer none, .int .i64 0, .pointer none, .slice none 0 0, .slice none 0 0, .int .i64 0]
theorem Nul.below {w w' : World} {v : Value} (h : Nul w v) (hb : Below w.heap.size w w') : Nul w' v := h.imp id fun ⟨b, h1, h2⟩ => ⟨b, h1, h2.below hb h2.lt⟩
theorem n_made {w : World} {v : Value} (h : Nul w v) : Calls Tryz.prog 81 #[v] w fun e w' => e = .returned (.bool false) ∧ w = w' := by
  rcases h with rfl | ⟨b, rfl, h⟩
  · go_enter Tryz.func81, Tryz.ntmps81
    go_wp2_with fail
    go_ret
    exact ⟨rfl, rfl⟩
  · have c0 : w.cell? ⟨b, 0, none⟩ = some (.pointer none) := h.cell 0
    clear h
    go_enter Tryz.func81, Tryz.ntmps81
    go_wp2_with fail
    go_ret
    exact ⟨rfl, rfl⟩
theorem n_has {w : World} {v : Value} (h : Nul w v) (job now : Int) : Calls Tryz.prog 80 #[v, .int .i64 job, .int .i64 now] w fun e w' => e = .returned (.int .i64 1) ∧ w = w' := by
  have M := Lib.hid (n_made h)
  clear h
  go_enter Tryz.func80, Tryz.ntmps80
  go_wp2_with fail
  refine (M.out).mono ?_
  rintro e_ w' ⟨rfl, rfl⟩
  go_wp2_with fail
  go_ret
  exact ⟨rfl, rfl⟩
theorem n_call {w : World} {v : Value} (h : Nul w v) (job now : Int) : Calls Tryz.prog 61 #[v, .int .i64 job, .int .i64 now] w fun e w' => e = .returned (.int .i64 1) ∧ w = w' := by
  have M := Lib.hid (n_has h job now)
  clear h
  go_enter Tryz.func61, Tryz.ntmps61
  go_wp2_with fail
  refine (M.out).mono ?_
  rintro e_ w' ⟨rfl, rfl⟩
  go_wp2_with fail
  go_ret
  exact ⟨rfl, rfl⟩
theorem n_give {w : World} {v : Value} (h : Nul w v) (job : Int) (ok : Bool) (now : Int) : Calls Tryz.prog 20 #[v, .int .i64 job, .bool ok, .int .i64 now] w fun e w' => e = .returned (.tuple #[.int .i64 0, .int .i64 1]) ∧ w = w' := by
  have M := Lib.hid (n_call h job now)
  clear h
  go_enter Tryz.func20, Tryz.ntmps20
  go_wp2_with fail
  refine (M.out).mono ?_
  rintro e_ w' ⟨rfl, rfl⟩
  go_wp2_with fail
  go_ret2
  exact ⟨rfl, rfl⟩
theorem n_state {w : World} {v : Value} (h : Nul w v) (job now : Int) : Calls Tryz.prog 30 #[v, .int .i64 job, .int .i64 now] w fun e w' => e = .returned (.tuple #[.int .i64 0, .int .i64 0, .int .i64 1]) ∧ w = w' := by
  have M := Lib.hid (n_has h job now)
  clear h
  go_enter Tryz.func30, Tryz.ntmps30
  go_wp2_with fail
  refine (M.out).mono ?_
  rintro e_ w' ⟨rfl, rfl⟩
  go_wp2_with fail
  refine bodyPost_ret (results_tmp3 rfl _ _ _) rfl ?_
  exact ⟨rfl, rfl⟩
theorem n_until {w : World} {v : Value} (h : Nul w v) (job : Int) : Calls Tryz.prog 35 #[v, .int .i64 job] w fun e w' => e = .returned (.tuple #[.int .i64 0, .bool false]) ∧ w = w' := by
  have M := Lib.hid (n_has h job 0)
  clear h
  go_enter Tryz.func35, Tryz.ntmps35
  go_wp2_with fail
  refine (M.out).mono ?_
  rintro e_ w' ⟨rfl, rfl⟩
  go_wp2_with fail
  go_ret2
  exact ⟨rfl, rfl⟩
theorem n_trip {w : World} {v : Value} (h : Nul w v) (job now : Int) : Calls Tryz.prog 28 #[v, .int .i64 job, .int .i64 now] w fun e w' => e = .returned (.int .i64 1) ∧ w = w' := by
  have M := Lib.hid (n_call h job now)
  clear h
  go_enter Tryz.func28, Tryz.ntmps28
  go_wp2_with fail
  refine (M.out).mono ?_
  rintro e_ w' ⟨rfl, rfl⟩
  go_wp2_with fail
  go_ret
  exact ⟨rfl, rfl⟩
theorem n_reset {w : World} {v : Value} (h : Nul w v) (job now : Int) : Calls Tryz.prog 29 #[v, .int .i64 job, .int .i64 now] w fun e w' => e = .returned (.int .i64 1) ∧ w = w' := by
  have M := Lib.hid (n_call h job now)
  clear h
  go_enter Tryz.func29, Tryz.ntmps29
  go_wp2_with fail
  refine (M.out).mono ?_
  rintro e_ w' ⟨rfl, rfl⟩
  go_wp2_with fail
  go_ret
  exact ⟨rfl, rfl⟩
theorem n_copy {w : World} {v : Value} (h : Nul w v)  : Calls Tryz.prog 37 #[v] w fun e w' => e = .returned (.pointer none) ∧ w = w' := by
  have M := Lib.hid (n_made h)
  clear h
  go_enter Tryz.func37, Tryz.ntmps37
  go_wp2_with fail
  refine (M.out).mono ?_
  rintro e_ w' ⟨rfl, rfl⟩
  go_wp2_with fail
  go_ret
  exact ⟨rfl, rfl⟩
theorem n_why {w : World} {v : Value} (h : Nul w v) (job now : Int) : Calls Tryz.prog 19 #[v, .int .i64 job, .int .i64 now] w fun e w' => e = .returned (.tuple #[.int .i64 0, .int .i64 1]) ∧ Below w.heap.size w w' := by
  have M := Lib.hid (n_call (h.below (three w (.cells #[v] 50) (.cells #[.int .i64 job] 3) (.cells #[.int .i64 now] 2))) job now)
  rcases h with rfl | ⟨b, rfl, h⟩
  · go_enter Tryz.func19, Tryz.ntmps19
    go_wp2_with fail
    refine (M.out).mono ?_
    rintro e_ w' ⟨rfl, rfl⟩
    go_wp2_with fail
    go_ret2
    exact ⟨rfl, three w _ _ _⟩
  · clear h
    go_enter Tryz.func19, Tryz.ntmps19
    go_wp2_with fail
    refine (M.out).mono ?_
    rintro e_ w' ⟨rfl, rfl⟩
    go_wp2_with fail
    go_ret2
    exact ⟨rfl, three w _ _ _⟩
theorem n_next {w : World} {v : Value} (h : Nul w v) (job now : Int) : Calls Tryz.prog 26 #[v, .int .i64 job, .int .i64 now] w fun e w' => e = .returned (.tuple #[.int .i64 0, .bool false, .int .i64 1]) ∧ Below w.heap.size w w' := by
  have M := Lib.hid (n_why h job now)
  clear h
  go_enter Tryz.func26, Tryz.ntmps26
  go_wp2_with fail
  refine (M.out).mono ?_
  rintro e_ w' ⟨rfl, hb⟩
  have HB := Lib.hid hb
  clear hb
  go_wp2_with fail
  refine bodyPost_ret (results_tmp3 rfl _ _ _) rfl ?_
  exact ⟨rfl, HB.out⟩
theorem n_take {w : World} {v : Value} (h : Nul w v) (job now : Int) : Calls Tryz.prog 22 #[v, .int .i64 job, .int .i64 now] w fun e w' => e = .returned (.int .i64 1) ∧ Below w.heap.size w w' := by
  have M := Lib.hid (n_why h job now)
  clear h
  go_enter Tryz.func22, Tryz.ntmps22
  go_wp2_with fail
  refine (M.out).mono ?_
  rintro e_ w' ⟨rfl, hb⟩
  have HB := Lib.hid hb
  clear hb
  go_wp2_with fail
  go_ret
  exact ⟨rfl, HB.out⟩
theorem n_all {w : World} {v : Value} (h : Nul w v) : Calls Tryz.prog 46 #[v] w fun e w' => e = .returned (.agg #[.slice none 0 0, .slice none 0 0, .slice none 0 0]) ∧ Below w.heap.size w w' := by
  have M := Lib.hid (n_made (h.below ((Below.refl _ w).alloc (Nat.le_refl _) (.cells #[.slice none 0 0, .slice none 0 0, .slice none 0 0] 109))))
  clear h
  go_enter Tryz.func46, Tryz.ntmps46
  go_wp2_with fail
  refine (M.out).mono ?_
  rintro e_ w' ⟨rfl, rfl⟩
  go_wp2_with fail
  refine bodyPost_ret (results_cell_row rfl _ _ w.heap.size _ _ (0, 0) _ rfl (Blk.new w _ _) Tryz.underlying109 rfl (by kernel_rfl)) rfl ?_
  exact ⟨rfl, (Below.refl _ w).alloc (Nat.le_refl _) _⟩
theorem nil_st (w : World) : StAt w 0 (.agg #[.slice none 0 0, .slice none 0 0, .slice none 0 0]) [] [] [] :=
  ⟨none, 0, none, 0, none, 0, rfl, fun h => absurd h (by decide), fun h => absurd h (by decide), fun h => absurd h (by decide)⟩
theorem n_equal (w : World) : Calls Tryz.prog 48 #[.agg #[.slice none 0 0, .slice none 0 0, .slice none 0 0], .agg #[.slice none 0 0, .slice none 0 0, .slice none 0 0]] w fun e w' => e = .returned (.bool true) ∧ Below w.heap.size w w' :=
  (gequal_ok w (nil_st w) (nil_st w) (by decide) (by decide)).mono fun e w' ⟨h1, h2⟩ => ⟨h1, h2⟩
def nthV (b : Nat) : Nat → Value
  | 0 => .pointer none
  | _ => .pointer (some ⟨b, 0, none⟩)

set_option maxRecDepth 100000 in
set_option maxHeartbeats 4000000 in
theorem nil_walk (job now : Int) (ok : Bool) (w : World) (hT : SpTab w) (hTab : Tab w) : Calls Tryz.prog 10 #[.int .i64 job, .int .i64 now, .bool ok] w fun e w' => e = .returned (.bool true) ∧ Below w.heap.size w w' := by
  have TT := Lib.hid (fun W (hb : Below w.heap.size w W) => aworks_ok W (hT.below hb) (tab_below hTab hb (tab_lt hTab)))
  clear hT hTab
  go_enter Tryz.func10, Tryz.ntmps10
  go_wp2_with fail
  obtain ⟨W0, hW0⟩ : ∃ W0, W0 = (w.alloc (.cells #[.pointer none, .int .i64 0, .pointer none, .slice none 0 0, .slice none 0 0, .int .i64 0] 119)).alloc (.cells #[.pointer none, .pointer (some ⟨w.heap.size, 0, none⟩)] 50) := ⟨_, rfl⟩
  have BZ := Lib.hid (show Blk W0 w.heap.size 119 #[.pointer none, .int .i64 0, .pointer none, .slice none 0 0, .slice none 0 0, .int .i64 0] by rw [hW0]; exact (Blk.new _ _ _).alloc _)
  have BR := Lib.hid (show Blk W0 (w.heap.size + 1) 50 #[.pointer none, .pointer (some ⟨w.heap.size, 0, none⟩)] by rw [hW0]; exact blk_newAt (by simp))
  have BB := Lib.hid (show Below w.heap.size w W0 by rw [hW0]; exact two_boxes w _ _)
  have HW0 := Lib.hid hW0
  clear hW0
  go_loopw [27] (fun s27 wr => ∃ k : Nat, k ≤ 2 ∧ s27 = nthI k ∧ Blk wr w.heap.size 119 #[.pointer none, .int .i64 0, .pointer none, .slice none 0 0, .slice none 0 0, .int .i64 0] ∧ Blk wr (w.heap.size + 1) 50 #[.pointer none, .pointer (some ⟨w.heap.size, 0, none⟩)] ∧ Below w.heap.size w wr) (fun s27 _ => 2 - intA s27)
  case atStart =>
    have h1 := BZ.out
    have h2 := BR.out
    have h3 := BB.out
    rw [HW0.out] at h1 h2 h3
    exact ⟨0, by decide, rfl, h1, h2, h3⟩
  case round =>
    obtain ⟨k, hk, h27, hZ, hR, hB⟩ := hrel
    have HB0 := Lib.hid hB
    have HR0 := Lib.hid hR
    have HZ0 := Lib.hid hZ
    clear hB BB BZ BR HW0
    have k0 : wr.cell? ⟨w.heap.size + 1, 0, none⟩ = some (.pointer none) := hR.cell 0
    have k1 : wr.cell? ⟨w.heap.size + 1, 1, none⟩ = some (.pointer (some ⟨w.heap.size, 0, none⟩)) := hR.cell 1
    clear hR hZ
    obtain rfl | rfl | rfl : k = 0 ∨ k = 1 ∨ k = 2 := by omega
    · replace h27 := h27.trans (show nthI 0 = .int .i64 0 from rfl)
      subst h27
      have HN0 : Hid (Nul wr (.pointer none)) := Lib.hid (.inl rfl)
      · go_wp2_with fail
        refine (n_why HN0.out job now).mono ?_
        rintro e_ x1 ⟨rfl, hb⟩
        have HN1 := Lib.hid (HN0.out.below hb)
        have HB1 := Lib.hid (HB0.out.trans (hb.mono HB0.out.size))
        have HR1 := Lib.hid (HR0.out.below hb HR0.out.lt)
        have HZ1 := Lib.hid (HZ0.out.below hb HZ0.out.lt)
        clear hb HN0 HB0 HR0 HZ0
        go_wp2_with fail
        refine (n_give HN1.out job ok now).mono ?_
        rintro e_ w7 ⟨rfl, rfl⟩
        go_wp2_with fail
        refine (n_next HN1.out job now).mono ?_
        rintro e_ x2 ⟨rfl, hb⟩
        have HN2 := Lib.hid (HN1.out.below hb)
        have HB2 := Lib.hid (HB1.out.trans (hb.mono HB1.out.size))
        have HR2 := Lib.hid (HR1.out.below hb HR1.out.lt)
        have HZ2 := Lib.hid (HZ1.out.below hb HZ1.out.lt)
        clear hb HN1 HB1 HR1 HZ1
        go_wp2_with fail
        refine (n_state HN2.out job now).mono ?_
        rintro e_ w7 ⟨rfl, rfl⟩
        go_wp2_with fail
        refine (n_until HN2.out job).mono ?_
        rintro e_ w7 ⟨rfl, rfl⟩
        go_wp2_with fail
        refine (n_take HN2.out job now).mono ?_
        rintro e_ x3 ⟨rfl, hb⟩
        have HN3 := Lib.hid (HN2.out.below hb)
        have HB3 := Lib.hid (HB2.out.trans (hb.mono HB2.out.size))
        have HR3 := Lib.hid (HR2.out.below hb HR2.out.lt)
        have HZ3 := Lib.hid (HZ2.out.below hb HZ2.out.lt)
        clear hb HN2 HB2 HR2 HZ2
        go_wp2_with fail
        refine (n_trip HN3.out job now).mono ?_
        rintro e_ w7 ⟨rfl, rfl⟩
        go_wp2_with fail
        refine (n_reset HN3.out job now).mono ?_
        rintro e_ w7 ⟨rfl, rfl⟩
        go_wp2_with fail
        refine (n_copy HN3.out).mono ?_
        rintro e_ w7 ⟨rfl, rfl⟩
        go_wp2_with fail
        refine (n_all HN3.out).mono ?_
        rintro e_ x4 ⟨rfl, hb⟩
        have HN4 := Lib.hid (HN3.out.below hb)
        have HB4 := Lib.hid (HB3.out.trans (hb.mono HB3.out.size))
        have HR4 := Lib.hid (HR3.out.below hb HR3.out.lt)
        have HZ4 := Lib.hid (HZ3.out.below hb HZ3.out.lt)
        clear hb HN3 HB3 HR3 HZ3
        go_wp2_with fail
        refine (n_equal _).mono ?_
        rintro e_ x5 ⟨rfl, hb⟩
        have HN5 := Lib.hid (HN4.out.below hb)
        have HB5 := Lib.hid (HB4.out.trans (hb.mono HB4.out.size))
        have HR5 := Lib.hid (HR4.out.below hb HR4.out.lt)
        have HZ5 := Lib.hid (HZ4.out.below hb HZ4.out.lt)
        clear hb HN4 HB4 HR4 HZ4
        go_wp2_with fail
        refine ⟨⟨1, by decide, rfl, HZ5.out, HR5.out, HB5.out⟩, ?_⟩
        simp [intA]
    · replace h27 := h27.trans (show nthI 1 = .int .i64 1 from rfl)
      subst h27
      have HN0 : Hid (Nul wr (.pointer (some ⟨w.heap.size, 0, none⟩))) := Lib.hid (.inr ⟨_, rfl, HZ0.out⟩)
      · go_wp2_with fail
        refine (n_why HN0.out job now).mono ?_
        rintro e_ x1 ⟨rfl, hb⟩
        have HN1 := Lib.hid (HN0.out.below hb)
        have HB1 := Lib.hid (HB0.out.trans (hb.mono HB0.out.size))
        have HR1 := Lib.hid (HR0.out.below hb HR0.out.lt)
        have HZ1 := Lib.hid (HZ0.out.below hb HZ0.out.lt)
        clear hb HN0 HB0 HR0 HZ0
        go_wp2_with fail
        refine (n_give HN1.out job ok now).mono ?_
        rintro e_ w7 ⟨rfl, rfl⟩
        go_wp2_with fail
        refine (n_next HN1.out job now).mono ?_
        rintro e_ x2 ⟨rfl, hb⟩
        have HN2 := Lib.hid (HN1.out.below hb)
        have HB2 := Lib.hid (HB1.out.trans (hb.mono HB1.out.size))
        have HR2 := Lib.hid (HR1.out.below hb HR1.out.lt)
        have HZ2 := Lib.hid (HZ1.out.below hb HZ1.out.lt)
        clear hb HN1 HB1 HR1 HZ1
        go_wp2_with fail
        refine (n_state HN2.out job now).mono ?_
        rintro e_ w7 ⟨rfl, rfl⟩
        go_wp2_with fail
        refine (n_until HN2.out job).mono ?_
        rintro e_ w7 ⟨rfl, rfl⟩
        go_wp2_with fail
        refine (n_take HN2.out job now).mono ?_
        rintro e_ x3 ⟨rfl, hb⟩
        have HN3 := Lib.hid (HN2.out.below hb)
        have HB3 := Lib.hid (HB2.out.trans (hb.mono HB2.out.size))
        have HR3 := Lib.hid (HR2.out.below hb HR2.out.lt)
        have HZ3 := Lib.hid (HZ2.out.below hb HZ2.out.lt)
        clear hb HN2 HB2 HR2 HZ2
        go_wp2_with fail
        refine (n_trip HN3.out job now).mono ?_
        rintro e_ w7 ⟨rfl, rfl⟩
        go_wp2_with fail
        refine (n_reset HN3.out job now).mono ?_
        rintro e_ w7 ⟨rfl, rfl⟩
        go_wp2_with fail
        refine (n_copy HN3.out).mono ?_
        rintro e_ w7 ⟨rfl, rfl⟩
        go_wp2_with fail
        refine (n_all HN3.out).mono ?_
        rintro e_ x4 ⟨rfl, hb⟩
        have HN4 := Lib.hid (HN3.out.below hb)
        have HB4 := Lib.hid (HB3.out.trans (hb.mono HB3.out.size))
        have HR4 := Lib.hid (HR3.out.below hb HR3.out.lt)
        have HZ4 := Lib.hid (HZ3.out.below hb HZ3.out.lt)
        clear hb HN3 HB3 HR3 HZ3
        go_wp2_with fail
        refine (n_equal _).mono ?_
        rintro e_ x5 ⟨rfl, hb⟩
        have HN5 := Lib.hid (HN4.out.below hb)
        have HB5 := Lib.hid (HB4.out.trans (hb.mono HB4.out.size))
        have HR5 := Lib.hid (HR4.out.below hb HR4.out.lt)
        have HZ5 := Lib.hid (HZ4.out.below hb HZ4.out.lt)
        clear hb HN4 HB4 HR4 HZ4
        go_wp2_with fail
        refine ⟨⟨2, by decide, rfl, HZ5.out, HR5.out, HB5.out⟩, ?_⟩
        simp [intA]
    · replace h27 := h27.trans (show nthI 2 = .int .i64 2 from rfl)
      subst h27
      go_wp2_with fail
      refine (TT.out wr HB0.out).mono ?_
      rintro e_ w2 ⟨rfl, hb⟩
      have HB1 := Lib.hid (HB0.out.trans (hb.mono HB0.out.size))
      clear hb
      go_wp2_with fail
      go_ret
      exact ⟨rfl, HB1.out⟩
end Go.Proofs.YtmbnmfcjbbfkoaaGreatDoor.AD
