/- caps: Used, Left, Free, count, Take, Give, Copy. -/
import Derived.Test.YtpgckpafjiojfaaGreatDoorACa
namespace Go.Proofs.YtpgckpafjiojfaaGreatDoor.AD
open Go Go.RowKit
open BK (Blk only_refl only_drew only_drewN only_setCell only_trans only_of_below only_alloc below_drewN)
/-- What holds of caps at all times. -/
structure Cp.Inv (c : Cp) : Prop where
  n : c.n ≤ 64
  all : 0 ≤ c.all ∧ c.all ≤ 1000
  most : ∀ k, k < c.n → 0 ≤ c.most k ∧ c.most k ≤ 1000
  runs : ∀ k, k < c.n → 0 ≤ c.runs k ∧ c.runs k ≤ 1000
  total : 0 ≤ c.total ∧ c.total ≤ 64000
theorem CpAt.below {w w' : World} {b n : Nat} {c : Cp} (h : CpAt w b c) (hb : Below n w w') (hn : b < n) : CpAt w' b c := Blk.below h hb hn
theorem two_boxes (w : World) (x y : Obj) : Below w.heap.size w ((w.alloc x).alloc y) := ((Below.refl _ _).alloc (Nat.le_refl _) _).alloc (by simp) _
theorem run_load1 {P : Program} {ty : TypeId} (h : ∀ w, (isAgg ty).run P w = .ok false w) (p : Addr) (v : Value) (w : World) (hc : w.cell? p = some v) : (loadVar ty p).run P w = .ok v w := by
  unfold loadVar
  simp only [Sem.run_bind, h w, Result.andThen_ok]
  simp [hc]
/-- A quiet load whose value holds in all worlds of the class. -/
theorem wpQuiet_load1 {P : Program} {ops : Array Oper} {C : World → Prop} {Q : Act → Prop} {rest : List Oper} {op : Oper} {a : Act} (hw : Region.wanted op (yielded ops a.tmps) = true) (ty : TypeId) (x : Operand) (ho : op.op = .load ty x)
    (b o : Nat) (v : Value) (hx : a.eval x = .pointer (some ⟨b, o, none⟩)) (hl : ∀ w, C w → (loadVar ty ⟨b, o, none⟩).run P w = .ok v w)
    (h : wpQuiet P ops C Q rest (a.put op.dst v)) : wpQuiet P ops C Q (op :: rest) a := by
  refine wpQuiet_step fun K hK => ?_
  rw [if_pos hw]
  refine ⟨v, fun w hc => ?_, hK _ h⟩
  unfold Oper.quietAt execOp
  simp only [ho, hx, Instr.loadAt, Instr.sureAddr, Sem.run_bind, Sem.run_pure, Result.andThen_ok, hl w hc]
  exact ⟨rfl, rfl⟩
section
variable {w : World} {b : Nat} {c : Cp}
theorem CpAt.lt (h : CpAt w b c) : b < w.heap.size := Blk.lt h
set_option maxRecDepth 8000 in
set_option maxHeartbeats 1000000 in
theorem cused_ok (h : CpAt w b c) (hi : c.Inv) {j : Nat} (hj : j < c.n) : Calls Tryz.prog 52 #[.pointer (some ⟨b, 0, none⟩), .int .i64 j] w fun e w' => e = .returned (.tuple #[.int .i64 (c.runs j), .int .i64 0]) ∧ Below w.heap.size w w' := by
  have hn := hi.n
  have HX := Lib.hid (fun (W : World) (hW : CpAt W b c) (q r : Nat) hq hr => cof_ok hW hj 117 q r (fun _ _ => rfl) _ _ (cused1_ok hW (show j < 64 by omega) hq hr))
  have HH := Lib.hid h
  clear h hi hn
  go_enter Tryz.func52, Tryz.ntmps52
  go_wp2_with fail
  refine (HX.out _ ?_ _ _ ?_ ?_).mono ?_
  · exact HH.out.below (two_boxes w _ _) HH.out.lt
  · simp
  · simp
  rintro e w' ⟨rfl, n, rfl⟩
  go_wp2_with fail
  go_ret2
  exact ⟨rfl, below_drewN (two_boxes w _ _) n⟩
set_option maxRecDepth 8000 in
set_option maxHeartbeats 1000000 in
theorem cleft1_ok (h : CpAt w b c) (hi : c.Inv) {q r j : Nat} (hj : j < c.n) (hq : w.cell? ⟨q, 0, none⟩ = some (.pointer (some ⟨b, 0, none⟩))) (hr : w.cell? ⟨r, 0, none⟩ = some (.int .i64 j)) :
    Calls Tryz.prog 171 #[.pointer (some ⟨q, 0, none⟩), .pointer (some ⟨r, 0, none⟩)] w fun e w' => e = .returned (.tuple #[.int .i64 (min (c.most j - c.runs j) (c.all - c.total)), .int .i64 0]) ∧ ∃ n, w' = w.drewN n := by
  have hn := hi.n
  have c1 := h.run (show j < 64 by omega)
  have c2 := h.cap (show j < 64 by omega)
  have c3 : w.cell? ⟨b, 1, none⟩ = some (.int .i64 c.all) := h.cell (by decide)
  have c4 : w.cell? ⟨b, 131, none⟩ = some (.int .i64 c.total) := h.cell (by decide)
  have h1 := hi.most j hj
  have h2 := hi.runs j hj
  have h3 := hi.all
  have h4 := hi.total
  have hj6 : j < 64 := by omega
  clear h hi
  have w1 : IntKind.i64.wrap (c.most j - c.runs j) = c.most j - c.runs j := IntWalk.i64_in _ (by omega)
  have w2 : IntKind.i64.wrap (c.all - c.total) = c.all - c.total := IntWalk.i64_in _ (by omega)
  go_enter Tryz.func171, Tryz.ntmps171
  go_wp2_with fail
  go_quiet (fail)
  go_wp2_with fail
  go_ret2
  exact ⟨rfl, _, rfl⟩
set_option maxRecDepth 8000 in
set_option maxHeartbeats 1000000 in
theorem cleft_ok (h : CpAt w b c) (hi : c.Inv) {j : Nat} (hj : j < c.n) : Calls Tryz.prog 148 #[.pointer (some ⟨b, 0, none⟩), .int .i64 j] w fun e w' => e = .returned (.tuple #[.int .i64 (min (c.most j - c.runs j) (c.all - c.total)), .int .i64 0]) ∧ Below w.heap.size w w' := by
  have HX := Lib.hid (fun (W : World) (hW : CpAt W b c) (q r : Nat) hq hr => cof_ok hW hj 171 q r (fun _ _ => rfl) _ _ (cleft1_ok hW hi hj hq hr))
  have HH := Lib.hid h
  clear h hi
  go_enter Tryz.func148, Tryz.ntmps148
  go_wp2_with fail
  refine (HX.out _ ?_ _ _ ?_ ?_).mono ?_
  · exact HH.out.below (two_boxes w _ _) HH.out.lt
  · simp
  · simp
  rintro e w' ⟨rfl, n, rfl⟩
  go_wp2_with fail
  go_ret2
  exact ⟨rfl, below_drewN (two_boxes w _ _) n⟩
set_option maxRecDepth 8000 in
set_option maxHeartbeats 1000000 in
theorem cfree_ok (h : CpAt w b c) (hi : c.Inv) {j : Nat} (hj : j < c.n) : Calls Tryz.prog 114 #[.pointer (some ⟨b, 0, none⟩), .int .i64 j] w fun e w' => e = .returned (.bool (decide (0 < min (c.most j - c.runs j) (c.all - c.total)))) ∧ Below w.heap.size w w' := by
  have HL := Lib.hid (cleft_ok h hi hj)
  generalize min (c.most j - c.runs j) (c.all - c.total) = m at *
  clear h hi
  go_enter Tryz.func114, Tryz.ntmps114
  go_wp2_with fail
  refine (HL.out).mono ?_
  rintro e w' ⟨rfl, hb⟩
  have HB := Lib.hid hb
  clear hb
  go_wp2_with fail
  go_ret
  exact ⟨rfl, HB.out⟩
set_option maxRecDepth 8000 in
set_option maxHeartbeats 1000000 in
theorem ccount_ok (h : CpAt w b c) (hi : c.Inv) {j : Nat} (hj : j < c.n) (d : Int) (hd : d = 1 ∨ d = -1) : Calls Tryz.prog 105 #[.pointer (some ⟨b, 0, none⟩), .int .i64 j, .int .i64 d] w fun e w' => e = .returned (.tuple #[.int .i64 0, .int .i64 0]) ∧ CpAt w' b (c.put j d) ∧ w.grownBy w' (some b) := by
  have hn := hi.n
  have hj6 : j < 64 := by omega
  have HH := Lib.hid h
  have c1 := h.run hj6
  have c4 : w.cell? ⟨b, 131, none⟩ = some (.int .i64 c.total) := h.cell (by decide)
  have f1 : w.frozen? ⟨b, 67 + j, none⟩ = false := Blk.frozen h _
  have f4 : w.frozen? ⟨b, 131, none⟩ = false := Blk.frozen h _
  have h2 := hi.runs j hj
  have h4 := hi.total
  clear h hi
  have w1 : IntKind.i64.wrap (c.runs j + d) = c.runs j + d := IntWalk.i64_in _ (by omega)
  have w2 : IntKind.i64.wrap (c.total + d) = c.total + d := IntWalk.i64_in _ (by omega)
  go_enter Tryz.func105, Tryz.ntmps105
  go_wp2_with fail
  refine RK.wp_region_quiet_tail _ 10 _ (by rfl) (by kernel_rfl) (by kernel_rfl) (by kernel_rfl) (by kernel_rfl) (by kernel_rfl) (by kernel_rfl) (by kernel_rfl) ?_
  dsimp only [List.take_succ_cons, List.take_zero]
  repeat (go_big_quiet_step (fail))
  refine wpQuiet_load1 (by rfl) 3 _ rfl b (67 + j) (.int .i64 (c.runs j)) rfl (fun W hW => ?_) ?_
  · obtain ⟨⟨dq, osq⟩, rfl⟩ := hW
    exact run_load1 (fun _ => rfl) _ _ _ ((HH.out.below (below_regrown w dq osq) HH.out.lt).run hj6)
  conv => arg 6; simp only [Act.put, List.setIfInBounds_toArray, List.set_cons_succ, List.set_cons_zero]
  repeat (go_big_quiet_step (fail))
  refine wpQuiet_nil ?_
  intro _ hw'
  obtain ⟨⟨dq, osq⟩, hw''⟩ := hw'
  subst hw''
  have hb0 := below_regrown w dq osq
  generalize Sort.grow (redrawn w dq) osq = W at *
  have HB := Lib.hid hb0
  have HH2 := Lib.hid (HH.out.below hb0 HH.out.lt)
  clear hb0 c1 c4 f1 f4
  have c1 := HH2.out.run hj6
  have c4 : W.cell? ⟨b, 131, none⟩ = some (.int .i64 c.total) := HH2.out.cell (by decide)
  have f1 : W.frozen? ⟨b, 67 + j, none⟩ = false := Blk.frozen HH2.out _
  have f4 : W.frozen? ⟨b, 131, none⟩ = false := Blk.frozen HH2.out _
  go_wp2_with fail
  go_ret2
  refine ⟨rfl, ?_, ?_⟩
  · have h1 := ((HH2.out.set_ (67 + j) (.int .i64 (c.runs j + d))).set_ 131 (.int .i64 (c.total + d)))
    rw [Cp.put_cells c hj6 d] at h1
    exact h1
  · (repeat (first | (with_reducible exact only_of_below HB.out _) | (with_reducible refine only_drew ?_) | (with_reducible refine only_setCell ?_ (.inl rfl) _)))
set_option maxRecDepth 8000 in
set_option maxHeartbeats 1000000 in
theorem ctake1_ok (h : CpAt w b c) (hi : c.Inv) {q r j : Nat} (hj : j < c.n) (lq : q < w.heap.size) (lr : r < w.heap.size) (hq : w.cell? ⟨q, 0, none⟩ = some (.pointer (some ⟨b, 0, none⟩))) (hr : w.cell? ⟨r, 0, none⟩ = some (.int .i64 j)) (hf : 0 < min (c.most j - c.runs j) (c.all - c.total)) :
    Calls Tryz.prog 113 #[.pointer (some ⟨q, 0, none⟩), .pointer (some ⟨r, 0, none⟩)] w fun e w' => e = .returned (.tuple #[.int .i64 0, .int .i64 0]) ∧ CpAt w' b (c.put j 1) ∧ w.grownBy w' (some b) := by
  have HF := cfree_ok h hi hj
  rw [decide_eq_true hf] at HF
  have HF' := Lib.hid HF
  have HC := Lib.hid (fun W hW => ccount_ok (w := W) (b := b) hW hi hj 1 (.inl rfl))
  have HH := Lib.hid h
  have HQ := Lib.hid (fun (W : World) (hW : Below w.heap.size w W) => (show W.cell? ⟨q, 0, none⟩ = some (.pointer (some ⟨b, 0, none⟩)) by rw [hW.cell (p := ⟨q, 0, none⟩) lq]; exact hq))
  have HR := Lib.hid (fun (W : World) (hW : Below w.heap.size w W) => (show W.cell? ⟨r, 0, none⟩ = some (.int .i64 j) by rw [hW.cell (p := ⟨r, 0, none⟩) lr]; exact hr))
  clear h hi HF hf
  go_enter Tryz.func113, Tryz.ntmps113
  go_wp2_with fail
  refine (HF'.out).mono ?_
  rintro e w1 ⟨rfl, hb⟩
  have HB := Lib.hid hb
  have k1 := HQ.out _ hb
  have k2 := HR.out _ hb
  have hc1 := Lib.hid (HH.out.below hb HH.out.lt)
  clear hb hq hr
  go_wp2_with fail
  refine (HC.out _ hc1.out).mono ?_
  rintro e w2 ⟨rfl, h3, h4⟩
  have H3 := Lib.hid h3
  have H4 := Lib.hid h4
  clear h3 h4
  go_wp2_with fail
  go_ret2
  exact ⟨rfl, H3.out, only_trans (only_of_below HB.out _) H4.out⟩
set_option maxRecDepth 8000 in
set_option maxHeartbeats 1000000 in
theorem cgive1_ok (h : CpAt w b c) (hi : c.Inv) {q r j : Nat} (hj : j < c.n) (hq : w.cell? ⟨q, 0, none⟩ = some (.pointer (some ⟨b, 0, none⟩))) (hr : w.cell? ⟨r, 0, none⟩ = some (.int .i64 j)) (hf : c.runs j ≠ 0) :
    Calls Tryz.prog 104 #[.pointer (some ⟨q, 0, none⟩), .pointer (some ⟨r, 0, none⟩)] w fun e w' => e = .returned (.tuple #[.int .i64 0, .int .i64 0]) ∧ CpAt w' b (c.put j (-1)) ∧ w.grownBy w' (some b) := by
  have HC := Lib.hid (fun n => ccount_ok (w := w.drewN n) (b := b) (Blk.drewN h n) hi hj (-1) (.inr rfl))
  have hn := hi.n
  have hj6 : j < 64 := by omega
  have c1 := h.run hj6
  have q1 : (c.runs j == 0) = false := by rw [beq_eq_false_iff_ne]; exact hf
  clear h hi hf
  go_enter Tryz.func104, Tryz.ntmps104
  go_wp2_with fail
  go_quiet (fail)
  go_wp2_with fail
  refine (HC.out _).mono ?_
  rintro e w2 ⟨rfl, h3, h4⟩
  have H3 := Lib.hid h3
  have H4 := Lib.hid h4
  clear h3 h4
  go_wp2_with fail
  go_ret2
  exact ⟨rfl, H3.out, only_trans (only_drewN (only_refl w _) _) H4.out⟩
set_option maxRecDepth 8000 in
set_option maxHeartbeats 1000000 in
theorem ctake_ok (h : CpAt w b c) (hi : c.Inv) {j : Nat} (hj : j < c.n) (hf : 0 < min (c.most j - c.runs j) (c.all - c.total)) : Calls Tryz.prog 48 #[.pointer (some ⟨b, 0, none⟩), .int .i64 j] w fun e w' => e = .returned (.int .i64 0) ∧ CpAt w' b (c.put j 1) ∧ w.grownBy w' (some b) := by
  have HX := Lib.hid (fun (W : World) (hW : CpAt W b c) (q r : Nat) (lq : q < W.heap.size) (lr : r < W.heap.size) hq hr => cof_ok hW hj 113 q r (fun _ _ => rfl) _ _ (ctake1_ok hW hi hj lq lr hq hr hf))
  have HH := Lib.hid h
  clear h hi hf
  go_enter Tryz.func48, Tryz.ntmps48
  go_wp2_with fail
  refine (HX.out _ ?_ _ _ ?_ ?_ ?_ ?_).mono ?_
  · exact HH.out.below (two_boxes w _ _) HH.out.lt
  · simp
    omega
  · simp
  · simp
  · simp
  rintro e w' ⟨rfl, h3, h4⟩
  have H3 := Lib.hid h3
  have H4 := Lib.hid h4
  clear h3 h4
  go_wp2_with fail
  go_ret
  exact ⟨rfl, H3.out, only_trans (only_of_below (two_boxes w _ _) _) H4.out⟩
set_option maxRecDepth 8000 in
set_option maxHeartbeats 1000000 in
theorem cgive_ok (h : CpAt w b c) (hi : c.Inv) {j : Nat} (hj : j < c.n) (hf : c.runs j ≠ 0) : Calls Tryz.prog 44 #[.pointer (some ⟨b, 0, none⟩), .int .i64 j] w fun e w' => e = .returned (.int .i64 0) ∧ CpAt w' b (c.put j (-1)) ∧ w.grownBy w' (some b) := by
  have HX := Lib.hid (fun (W : World) (hW : CpAt W b c) (q r : Nat) hq hr => cof_ok hW hj 104 q r (fun _ _ => rfl) _ _ (cgive1_ok hW hi hj hq hr hf))
  have HH := Lib.hid h
  clear h hi hf
  go_enter Tryz.func44, Tryz.ntmps44
  go_wp2_with fail
  refine (HX.out _ ?_ _ _ ?_ ?_).mono ?_
  · exact HH.out.below (two_boxes w _ _) HH.out.lt
  · simp
  · simp
  rintro e w' ⟨rfl, h3, h4⟩
  have H3 := Lib.hid h3
  have H4 := Lib.hid h4
  clear h3 h4
  go_wp2_with fail
  go_ret
  exact ⟨rfl, H3.out, only_trans (only_of_below (two_boxes w _ _) _) H4.out⟩
set_option maxRecDepth 8000 in
set_option maxHeartbeats 1000000 in
theorem cnone_ok (h : CpAt w b c) (hi : c.Inv) {j : Nat} (hj : j < c.n) (hf : c.runs j = 0) : Calls Tryz.prog 44 #[.pointer (some ⟨b, 0, none⟩), .int .i64 j] w fun e w' => e = .returned (.int .i64 5) ∧ Below w.heap.size w w' := by
  have hn := hi.n
  have hj6 : j < 64 := by omega
  have HX : Hid (∀ (W : World) (hW : CpAt W b c) (q r : Nat) (hq : W.cell? ⟨q, 0, none⟩ = some (.pointer (some ⟨b, 0, none⟩))) (hr : W.cell? ⟨r, 0, none⟩ = some (.int .i64 j)), Calls Tryz.prog 104 #[.pointer (some ⟨q, 0, none⟩), .pointer (some ⟨r, 0, none⟩)] W fun e w' => e = .returned (.tuple #[.int .i64 0, .int .i64 5]) ∧ ∃ n, w' = W.drewN n) := by
    refine Lib.hid (fun W hW q r hq hr => ?_)
    have c1 := hW.run hj6
    rw [hf] at c1
    clear hW
    go_enter Tryz.func104, Tryz.ntmps104
    go_wp2_with fail
    go_quiet (fail)
    go_wp2_with fail
    go_ret2
    exact ⟨rfl, _, rfl⟩
  have HY := Lib.hid (fun (W : World) (hW : CpAt W b c) (q r : Nat) hq hr => cof_ok hW hj 104 q r (fun _ _ => rfl) _ _ (HX.out W hW q r hq hr))
  have HH := Lib.hid h
  clear h hi hf HX
  go_enter Tryz.func44, Tryz.ntmps44
  go_wp2_with fail
  refine (HY.out _ ?_ _ _ ?_ ?_).mono ?_
  · exact HH.out.below (two_boxes w _ _) HH.out.lt
  · simp
  · simp
  rintro e w' ⟨rfl, n, rfl⟩
  go_wp2_with fail
  go_ret
  exact ⟨rfl, below_drewN (two_boxes w _ _) n⟩
end
end Go.Proofs.YtpgckpafjiojfaaGreatDoor.AD
