/- Contract of admit's Copy: an independent gate in the same state. -/
import Derived.Test.YtpgckpafjiojfaaGreatDoorAHx
import Derived.Test.YtpgckpafjiojfaaGreatDoorAIw
namespace Go.Proofs.YtpgckpafjiojfaaGreatDoor.AD
open Go Go.RowKit BW
open BK (Bx BoxAt Blk only_refl only_drew only_drewN only_setCell only_trans only_of_below only_alloc below_drewN)
def blkP : Value → Nat
 | .pointer (some a) => a.block
 | _ => 0
def P4 (L : Ly) (i : Nat) (v : Value) : Prop := match i with
 | 0 => v = .pointer (some ⟨L.g, 0, none⟩)
 | 1 => v = .pointer (some ⟨L.g, 0, none⟩)
 | 2 => v = .pointer (some ⟨L.g, 0, none⟩)
 | 3 => v = .pointer (some ⟨L.cp, 0, none⟩)
 | 4 => v = .pointer (some ⟨blkP v, 0, none⟩)
 | 5 => v = .pointer (some ⟨L.g, 0, none⟩)
 | 6 => v = .pointer (some ⟨L.g, 0, none⟩)
 | 7 => v = .pointer (some ⟨L.g, 2, none⟩)
 | 8 => v = .pointer (some ⟨L.lm, 0, none⟩)
 | 9 => v = .pointer (some ⟨blkP v, 0, none⟩)
 | _ => True
structure R4 (Z : World) (x : Gt) (L : Ly) (listed : Array Bool) (v : Nat → Value) (W : World) : Prop where
 all : ∀ i, listed[i]? = some true → P4 L i (v i)
 bel : Below Z.heap.size Z W
 c : listed[4]? = some true → CpAt W (blkP (v 4)) x.cp ∧ Z.heap.size ≤ blkP (v 4)
 l : listed[9]? = some true → LmAt W (blkP (v 9)) x.both ∧ Z.heap.size ≤ blkP (v 9)
theorem R4.step {Z : World} {x : Gt} {L : Ly} {listed : Array Bool} {v : Nat → Value} {W : World} (h : R4 Z x L listed v W) {i : Nat} {u : Value} (hi : i ≠ 4 ∧ i ≠ 9) (hp : P4 L i u) : R4 Z x L (listed.setIfInBounds i true) (updC v i u) W := by
 refine ⟨fun m hm => ?_, h.bel, fun hz => ?_, fun hz => ?_⟩
 ·by_cases e : m = i
  ·subst e; rw [updC_eq]; exact hp
  ·rw [updC_ne e]; exact h.all m ((set_at m hm).resolve_left e)
 ·rw [updC_ne (Ne.symm hi.1)]; exact h.c ((set_at 4 hz).resolve_left (Ne.symm hi.1))
 ·rw [updC_ne (Ne.symm hi.2)]; exact h.l ((set_at 9 hz).resolve_left (Ne.symm hi.2))
theorem R4.caps {Z : World} {x : Gt} {L : Ly} {listed : Array Bool} {v : Nat → Value} {W W' : World} (h : R4 Z x L listed v W) {b : Nat} (hb : Below W.heap.size W W') (hc : CpAt W' b x.cp) (hl : W.heap.size ≤ b) : R4 Z x L (listed.setIfInBounds 4 true) (updC v 4 (.pointer (some ⟨b, 0, none⟩))) W' := by
 refine ⟨fun m hm => ?_, h.bel.trans (hb.mono h.bel.size), fun _ => ?_, fun hz => ?_⟩
 ·by_cases e : m = 4
  ·subst e; rw [updC_eq]; rfl
  ·rw [updC_ne e]; exact h.all m ((set_at m hm).resolve_left e)
 ·rw [updC_eq]; exact ⟨hc, Nat.le_trans h.bel.size hl⟩
 ·rw [updC_ne (by decide)]
  have := h.l ((set_at 9 hz).resolve_left (by decide))
  exact ⟨Blk.below this.1 hb (Blk.lt this.1), this.2⟩
theorem R4.lim {Z : World} {x : Gt} {L : Ly} {listed : Array Bool} {v : Nat → Value} {W W' : World} (h : R4 Z x L listed v W) {b : Nat} (hb : Below W.heap.size W W') (hc : LmAt W' b x.both) (hl : W.heap.size ≤ b) : R4 Z x L (listed.setIfInBounds 9 true) (updC v 9 (.pointer (some ⟨b, 0, none⟩))) W' := by
 refine ⟨fun m hm => ?_, h.bel.trans (hb.mono h.bel.size), fun hz => ?_, fun _ => ?_⟩
 ·by_cases e : m = 9
  ·subst e; rw [updC_eq]; rfl
  ·rw [updC_ne e]; exact h.all m ((set_at m hm).resolve_left e)
 ·rw [updC_ne (by decide)]
  have := h.c ((set_at 4 hz).resolve_left (by decide))
  exact ⟨Blk.below this.1 hb (Blk.lt this.1), this.2⟩
 ·rw [updC_eq]; exact ⟨hc, Nat.le_trans h.bel.size hl⟩
def P8 (K D li bo : Nat) (dv : Value) (i : Nat) (v : Value) : Prop := match i with
 | 0 => v = .pointer (some ⟨K, 3, none⟩)
 | 1 => v = dv
 | 2 => v = .pointer (some ⟨D, 0, none⟩)
 | 3 => v = .pointer (some ⟨li, 0, none⟩)
 | 4 => v = .pointer (some ⟨blkP v, 0, none⟩)
 | 5 => v = .pointer (some ⟨D, 1, none⟩)
 | 6 => v = .pointer (some ⟨bo, 0, none⟩)
 | 7 => v = .pointer (some ⟨blkP v, 0, none⟩)
 | 9 => v = .slice (some ⟨blkS v, 0, none⟩) 1 1
 | _ => True
structure R8 (Z : World) (j : Jt) (K D li bo : Nat) (dv : Value) (listed : Array Bool) (v : Nat → Value) (W : World) : Prop where
 all : ∀ i, listed[i]? = some true → P8 K D li bo dv i (v i)
 bel : Below Z.heap.size Z W
 l : listed[4]? = some true → LmAt W (blkP (v 4)) j.lm ∧ Z.heap.size ≤ blkP (v 4)
 b : listed[7]? = some true → BoxAt W (blkP (v 7)) j.bx ∧ Z.heap.size ≤ blkP (v 7)
 e : listed[8]? = some true → v 8 = .agg #[v 4, v 7] ∧ listed[4]? = some true ∧ listed[7]? = some true
 r : listed[9]? = some true → Blk W (blkS (v 9)) 125 #[v 4, v 7] ∧ listed[8]? = some true
section
variable {Z : World} {j : Jt} {K D li bo : Nat} {dv : Value} {listed : Array Bool} {v : Nat → Value} {W W' : World}
theorem R8.step (h : R8 Z j K D li bo dv listed v W) {i : Nat} {u : Value} (hi : i ≠ 4 ∧ i ≠ 7 ∧ i ≠ 8 ∧ i ≠ 9) (hp : P8 K D li bo dv i u) : R8 Z j K D li bo dv (listed.setIfInBounds i true) (updC v i u) W := by
 have t : ∀ {m}, m ≠ i → (listed.setIfInBounds i true)[m]? = some true → listed[m]? = some true := fun hj hz => (set_at _ hz).resolve_left hj
 refine ⟨fun m hm => ?_, h.bel, fun hz => ?_, fun hz => ?_, fun hz => ?_, fun hz => ?_⟩
 ·by_cases e : m = i
  ·subst e; rw [updC_eq]; exact hp
  ·rw [updC_ne e]; exact h.all m (t e hm)
 ·rw [updC_ne (Ne.symm hi.1)]; exact h.l (t (Ne.symm hi.1) hz)
 ·rw [updC_ne (Ne.symm hi.2.1)]; exact h.b (t (Ne.symm hi.2.1) hz)
 ·rw [updC_ne (Ne.symm hi.1), updC_ne (Ne.symm hi.2.1), updC_ne (Ne.symm hi.2.2.1)]
  obtain ⟨e1, e2, e3⟩ := h.e (t (Ne.symm hi.2.2.1) hz)
  exact ⟨e1, set_keep e2, set_keep e3⟩
 ·rw [updC_ne (Ne.symm hi.1), updC_ne (Ne.symm hi.2.1), updC_ne (Ne.symm hi.2.2.2)]
  obtain ⟨e1, e2⟩ := h.r (t (Ne.symm hi.2.2.2) hz)
  exact ⟨e1, set_keep e2⟩
theorem R8.lim (h : R8 Z j K D li bo dv listed v W) (h4 : listed[4]? = some false) {b : Nat} (hb : Below W.heap.size W W') (hc : LmAt W' b j.lm) (hl : W.heap.size ≤ b) : R8 Z j K D li bo dv (listed.setIfInBounds 4 true) (updC v 4 (.pointer (some ⟨b, 0, none⟩))) W' := by
 have t : ∀ {m}, m ≠ 4 → (listed.setIfInBounds 4 true)[m]? = some true → listed[m]? = some true := fun hj hz => (set_at _ hz).resolve_left hj
 refine ⟨fun m hm => ?_, h.bel.trans (hb.mono h.bel.size), fun _ => ?_, fun hz => ?_, fun hz => ?_, fun hz => ?_⟩
 ·by_cases e : m = 4
  ·subst e; rw [updC_eq]; rfl
  ·rw [updC_ne e]; exact h.all m (t e hm)
 ·rw [updC_eq]; exact ⟨hc, Nat.le_trans h.bel.size hl⟩
 ·rw [updC_ne (by decide)]
  have := h.b (t (by decide) hz)
  exact ⟨Blk.below this.1 hb (Blk.lt this.1), this.2⟩
 ·have := (h.e (t (by decide) hz)).2.1
  rw [h4] at this; cases this
 ·have := (h.e (h.r (t (by decide) hz)).2).2.1
  rw [h4] at this; cases this
theorem R8.box (h : R8 Z j K D li bo dv listed v W) (h7 : listed[7]? = some false) {b : Nat} (hb : Below W.heap.size W W') (hc : BoxAt W' b j.bx) (hl : W.heap.size ≤ b) : R8 Z j K D li bo dv (listed.setIfInBounds 7 true) (updC v 7 (.pointer (some ⟨b, 0, none⟩))) W' := by
 have t : ∀ {m}, m ≠ 7 → (listed.setIfInBounds 7 true)[m]? = some true → listed[m]? = some true := fun hj hz => (set_at _ hz).resolve_left hj
 refine ⟨fun m hm => ?_, h.bel.trans (hb.mono h.bel.size), fun hz => ?_, fun _ => ?_, fun hz => ?_, fun hz => ?_⟩
 ·by_cases e : m = 7
  ·subst e; rw [updC_eq]; rfl
  ·rw [updC_ne e]; exact h.all m (t e hm)
 ·rw [updC_ne (by decide)]
  have := h.l (t (by decide) hz)
  exact ⟨Blk.below this.1 hb (Blk.lt this.1), this.2⟩
 ·rw [updC_eq]; exact ⟨hc, Nat.le_trans h.bel.size hl⟩
 ·have := (h.e (t (by decide) hz)).2.2
  rw [h7] at this; cases this
 ·have := (h.e (h.r (t (by decide) hz)).2).2.2
  rw [h7] at this; cases this
theorem R8.both (h : R8 Z j K D li bo dv listed v W) (h8 : listed[8]? = some false) (h4 : listed[4]? = some true) (h7 : listed[7]? = some true) : R8 Z j K D li bo dv (listed.setIfInBounds 8 true) (updC v 8 (.agg #[v 4, v 7])) W := by
 have t : ∀ {m}, m ≠ 8 → (listed.setIfInBounds 8 true)[m]? = some true → listed[m]? = some true := fun hj hz => (set_at _ hz).resolve_left hj
 refine ⟨fun m hm => ?_, h.bel, fun hz => ?_, fun hz => ?_, fun _ => ?_, fun hz => ?_⟩
 ·by_cases e : m = 8
  ·subst e; trivial
  ·rw [updC_ne e]; exact h.all m (t e hm)
 ·rw [updC_ne (by decide)]; exact h.l (t (by decide) hz)
 ·rw [updC_ne (by decide)]; exact h.b (t (by decide) hz)
 ·rw [updC_eq, updC_ne (by decide), updC_ne (by decide)]
  exact ⟨rfl, set_keep h4, set_keep h7⟩
 ·have := (h.r (t (by decide) hz)).2
  rw [h8] at this; cases this
theorem R8.row (h : R8 Z j K D li bo dv listed v W) (h8 : listed[8]? = some true) (hw : W' = W.alloc (.cells #[v 4, v 7] 125)) : R8 Z j K D li bo dv (listed.setIfInBounds 9 true) (updC v 9 (.slice (some ⟨W.heap.size, 0, none⟩) 1 1)) W' := by
 have t : ∀ {m}, m ≠ 9 → (listed.setIfInBounds 9 true)[m]? = some true → listed[m]? = some true := fun hj hz => (set_at _ hz).resolve_left hj
 have hb : Below W.heap.size W W' := by rw [hw]; exact (Below.refl _ _).alloc (Nat.le_refl _) _
 refine ⟨fun m hm => ?_, h.bel.trans (hb.mono h.bel.size), fun hz => ?_, fun hz => ?_, fun hz => ?_, fun _ => ?_⟩
 ·by_cases e : m = 9
  ·subst e; rw [updC_eq]; rfl
  ·rw [updC_ne e]; exact h.all m (t e hm)
 ·rw [updC_ne (by decide)]
  have := h.l (t (by decide) hz)
  exact ⟨Blk.below this.1 hb (Blk.lt this.1), this.2⟩
 ·rw [updC_ne (by decide)]
  have := h.b (t (by decide) hz)
  exact ⟨Blk.below this.1 hb (Blk.lt this.1), this.2⟩
 ·rw [updC_ne (by decide), updC_ne (by decide), updC_ne (by decide)]
  obtain ⟨e1, e2, e3⟩ := h.e (t (by decide) hz)
  exact ⟨e1, set_keep e2, set_keep e3⟩
 ·rw [updC_eq, updC_ne (by decide), updC_ne (by decide), hw]
  exact ⟨Blk.new _ _ _, set_keep h8⟩
end
set_option maxRecDepth 16000 in
set_option maxHeartbeats 2000000 in
theorem gcopy_ok {w : World} {L : Ly} {x : Gt} (h : GAt w L x) : Calls Tryz.prog 22 #[.pointer (some ⟨L.g, 0, none⟩)] w fun e w' => ∃ Y : Ly, e = .returned (.pointer (some ⟨Y.g, 0, none⟩)) ∧ GAt w' Y x ∧ (∀ i, Y.own x.js.length i → w.heap.size ≤ i) ∧ (∀ i, Y.sup x.js.length i → w.heap.size ≤ i ∨ ∃ o, L.ea = some ⟨i, o, none⟩) ∧ Below w.heap.size w w' := by
 have M := Lib.hid (gmade_ok h)
 have H := Lib.hid h
 have HN := Lib.hid h.inv.n
 have c0 : w.cell? ⟨L.g, 0, none⟩ = some (.pointer (some ⟨L.cp, 0, none⟩)) := h.gate.cell 0
 have c1 : w.cell? ⟨L.g, 1, none⟩ = some (.int .i64 x.cap) := h.gate.cell 1
 have c2 : w.cell? ⟨L.g, 2, none⟩ = some (.pointer (some ⟨L.lm, 0, none⟩)) := h.gate.cell 2
 have c3 : w.cell? ⟨L.g, 3, none⟩ = some (.slice L.da x.js.length L.dc) := h.gate.cell 3
 have c4 : w.cell? ⟨L.g, 4, none⟩ = some (.slice L.ea x.js.length L.ec) := h.gate.cell 4
 have c5 : w.cell? ⟨L.g, 5, none⟩ = some (.int .i64 x.last) := h.gate.cell 5
 clear h
 go_enter Tryz.func22, Tryz.ntmps22
 go_wp2_with fail
 refine (M.out).mono ?_
 rintro e_ w_ ⟨rfl, rfl⟩
 clear M
 go_upto_region 4 with fail
 obtain ⟨W3, hW3⟩ : ∃ W3, W3 = w.alloc (.cells #[.pointer (some ⟨L.cp, 0, none⟩), .int .i64 x.cap, .pointer (some ⟨L.lm, 0, none⟩), .slice L.da x.js.length L.dc, .slice L.ea x.js.length L.ec, .int .i64 x.last] 118) := ⟨_, rfl⟩
 have hb3 : Below w.heap.size w W3 := by rw [hW3]; exact (Below.refl _ _).alloc (Nat.le_refl _) _
 have K3 : Hid (Blk W3 w.heap.size 118 #[.pointer (some ⟨L.cp, 0, none⟩), .int .i64 x.cap, .pointer (some ⟨L.lm, 0, none⟩), .slice L.da x.js.length L.dc, .slice L.ea x.js.length L.ec, .int .i64 x.last]) := Lib.hid (by rw [hW3]; exact Blk.new _ _ _)
 have HB3 := Lib.hid hb3
 have HSZ : Hid (w.heap.size ≤ W3.heap.size) := Lib.hid hb3.size
 have HG := Lib.hid (fun wx (hb : Below W3.heap.size W3 wx) => H.out.below (hb3.trans (hb.mono hb3.size)))
 rw [← hW3]
 obtain ⟨K, hK_⟩ : ∃ K, K = w.heap.size := ⟨_, rfl⟩
 have HK : Hid (w.heap.size ≤ K) := Lib.hid (by omega)
 rw [← hK_] at K3 ⊢
 clear hW3 hb3 hK_ c0 c1 c2 c3 c4 c5
 refine wp_region_put_tail _ 10 _ (R := R4 W3 x L) (by rfl) (by kernel_rfl) (by kernel_rfl) (by kernel_rfl) (by kernel_rfl) (by kernel_rfl) (by kernel_rfl) (by kernel_rfl) (by kernel_rfl) ?_ ?_ ?_
 ·intro v
  exact ⟨fun i hi => (rep_not hi).elim, (Below.refl _ _).drew, fun hz => (rep_not hz).elim, fun hz => (rep_not hz).elim⟩
 ·intro Q' K_ listed v wx i o hsz ho hli ha hR hK
  have HV := Lib.hid hR
  have dep := fun d hd => hR.all d (dep_listed ha d hd)
  have hi : i < 10 := (List.getElem?_eq_some_iff.1 ho).1
  clear hR hsz
  obtain rfl | rfl | rfl | rfl | rfl | rfl | rfl | rfl | rfl | rfl : i = 0 ∨ i = 1 ∨ i = 2 ∨ i = 3 ∨ i = 4 ∨ i = 5 ∨ i = 6 ∨ i = 7 ∨ i = 8 ∨ i = 9 := by omega
  ·-- operation 0
   cases ho
   simp only [putFrom, Act.put, List.take_succ_cons, List.take_zero, List.setIfInBounds_toArray, List.set_cons_succ, List.set_cons_zero] at hK ⊢
   go_simp
   exact hK _ _ (HV.out.step (by decide) rfl)
  ·-- operation 1
   cases ho
   have h0 := dep 0 (by kernel_rfl)
   replace h0 : v 0 = _ := h0
   simp only [putFrom, Act.put, List.take_succ_cons, List.take_zero, List.setIfInBounds_toArray, List.set_cons_succ, List.set_cons_zero, h0] at hK ⊢
   go_simp
   exact hK _ _ (HV.out.step (by decide) rfl)
  ·-- operation 2
   cases ho
   have h1 := dep 1 (by kernel_rfl)
   replace h1 : v 1 = _ := h1
   simp only [putFrom, Act.put, List.take_succ_cons, List.take_zero, List.setIfInBounds_toArray, List.set_cons_succ, List.set_cons_zero, h1] at hK ⊢
   go_simp
   exact hK _ _ (HV.out.step (by decide) rfl)
  ·-- operation 3
   cases ho
   have h2 := dep 2 (by kernel_rfl)
   replace h2 : v 2 = _ := h2
   have c0 : wx.cell? ⟨L.g, 0, none⟩ = some (.pointer (some ⟨L.cp, 0, none⟩)) := (HG.out wx HV.out.bel).gate.cell 0
   simp only [putFrom, Act.put, List.take_succ_cons, List.take_zero, List.setIfInBounds_toArray, List.set_cons_succ, List.set_cons_zero, h2] at hK ⊢
   go_simp
   exact hK _ _ (HV.out.step (by decide) rfl)
  ·-- operation 4
   cases ho
   have h3 := dep 3 (by kernel_rfl)
   replace h3 : v 3 = _ := h3
   have CP := cpcopy_ok (HG.out wx HV.out.bel).caps
   simp only [putFrom, Act.put, List.take_succ_cons, List.take_zero, List.setIfInBounds_toArray, List.set_cons_succ, List.set_cons_zero, h3] at hK ⊢
   go_simp
   refine CP.mono ?_
   rintro _ w5 ⟨rfl, h1, h2, h3⟩
   exact hK _ _ (HV.out.caps h2 h1 (Nat.le_refl _))
  ·-- operation 5
   cases ho
   simp only [putFrom, Act.put, List.take_succ_cons, List.take_zero, List.setIfInBounds_toArray, List.set_cons_succ, List.set_cons_zero] at hK ⊢
   go_simp
   exact hK _ _ (HV.out.step (by decide) rfl)
  ·-- operation 6
   cases ho
   have h5 := dep 5 (by kernel_rfl)
   replace h5 : v 5 = _ := h5
   simp only [putFrom, Act.put, List.take_succ_cons, List.take_zero, List.setIfInBounds_toArray, List.set_cons_succ, List.set_cons_zero, h5] at hK ⊢
   go_simp
   exact hK _ _ (HV.out.step (by decide) rfl)
  ·-- operation 7
   cases ho
   have h6 := dep 6 (by kernel_rfl)
   replace h6 : v 6 = _ := h6
   simp only [putFrom, Act.put, List.take_succ_cons, List.take_zero, List.setIfInBounds_toArray, List.set_cons_succ, List.set_cons_zero, h6] at hK ⊢
   go_simp
   exact hK _ _ (HV.out.step (by decide) rfl)
  ·-- operation 8
   cases ho
   have h7 := dep 7 (by kernel_rfl)
   replace h7 : v 7 = _ := h7
   have c2 : wx.cell? ⟨L.g, 2, none⟩ = some (.pointer (some ⟨L.lm, 0, none⟩)) := (HG.out wx HV.out.bel).gate.cell 2
   simp only [putFrom, Act.put, List.take_succ_cons, List.take_zero, List.setIfInBounds_toArray, List.set_cons_succ, List.set_cons_zero, h7] at hK ⊢
   go_simp
   exact hK _ _ (HV.out.step (by decide) rfl)
  ·-- operation 9
   cases ho
   have h8 := dep 8 (by kernel_rfl)
   replace h8 : v 8 = _ := h8
   have CP := lcopy_ok (HG.out wx HV.out.bel).lm
   simp only [putFrom, Act.put, List.take_succ_cons, List.take_zero, List.setIfInBounds_toArray, List.set_cons_succ, List.set_cons_zero, h8] at hK ⊢
   go_simp
   refine CP.mono ?_
   rintro _ w5 ⟨rfl, h1, h2, h3⟩
   exact hK _ _ (HV.out.lim h2 h1 (Nat.le_refl _))
 ·intro v listed w9 hall hR
  have h4 := hR.all 4 (hall 4 (by decide))
  replace h4 : v 4 = .pointer (some ⟨blkP (v 4), 0, none⟩) := h4
  have h9 := hR.all 9 (hall 9 (by decide))
  replace h9 : v 9 = .pointer (some ⟨blkP (v 9), 0, none⟩) := h9
  have hc := hR.c (hall 4 (by decide))
  have hl := hR.l (hall 9 (by decide))
  have HC4 := Lib.hid hc
  have HL4 := Lib.hid hl
  have HB4 := Lib.hid hR.bel
  generalize blkP (v 4) = cp at h4 HC4
  generalize blkP (v 9) = lm at h9 HL4
  simp only [putFrom, Act.put, List.take_succ_cons, List.take_zero, List.setIfInBounds_toArray, List.set_cons_succ, List.set_cons_zero, h4, h9, Nat.zero_add, Nat.reduceAdd]
  clear hc hl hR hall h4 h9
  have KB := Lib.hid (K3.out.below HB4.out K3.out.lt)
  have p0 : w9.cell? ⟨K, 0, none⟩ = some (.pointer (some ⟨L.cp, 0, none⟩)) := KB.out.cell 0
  have p2 : w9.cell? ⟨K, 2, none⟩ = some (.pointer (some ⟨L.lm, 0, none⟩)) := KB.out.cell 2
  have p3 : w9.cell? ⟨K, 3, none⟩ = some (.slice L.da x.js.length L.dc) := KB.out.cell 3
  have f0 : w9.frozen? ⟨K, 0, none⟩ = false := KB.out.frozen 0
  have f2 : w9.frozen? ⟨K, 2, none⟩ = false := KB.out.frozen 2
  have f3 : w9.frozen? ⟨K, 3, none⟩ = false := KB.out.frozen 3
  go_upto_region 5 with fail
  obtain ⟨W4, hW4⟩ : ∃ W4, W4 = ((w9.setCell ⟨K, 0, none⟩ (.pointer (some ⟨cp, 0, none⟩))).setCell ⟨K, 2, none⟩ (.pointer (some ⟨lm, 0, none⟩))).setCell ⟨K, 3, none⟩ (.slice none 0 0) := ⟨_, rfl⟩
  have I4 : Hid (CyI w x L cp lm K (.slice none 0 0) [] W4) := Lib.hid (by
   have hlow := HK.out
   have hsz := HSZ.out
   have hne : ∀ {c : Nat} {cs : Array Value} {t : TypeId}, Blk w9 c t cs → t ≠ 118 → c ≠ K := fun h hn => blk_ne h KB.out hn
   have k1 := ((KB.out.set_ 0 (.pointer (some ⟨cp, 0, none⟩))).set_ 2 (.pointer (some ⟨lm, 0, none⟩))).set_ 3 (.slice none 0 0)
   rw [hW4]
   refine ⟨by simpa using k1, ?_, ?_, ⟨rfl, .inl ⟨rfl, rfl⟩⟩, fun k q j hk => by simp at hk, ⟨hlow, by have := HC4.out.2; omega, by have := HL4.out.2; omega, fun q hq => by simp at hq⟩, fun k q hk => by simp at hk, ?_, Nat.zero_le _⟩
   ·exact Blk.far (Blk.far (Blk.far HC4.out.1 (hne HC4.out.1 (by decide)) _) (hne HC4.out.1 (by decide)) _) (hne HC4.out.1 (by decide)) _
   ·exact Blk.far (Blk.far (Blk.far HL4.out.1 (hne HL4.out.1 (by decide)) _) (hne HL4.out.1 (by decide)) _) (hne HL4.out.1 (by decide)) _
   ·exact (((HB3.out.trans (HB4.out.mono (by omega))).setCell hlow _).setCell hlow _).setCell hlow _)
  rw [← hW4]
  clear hW4 p0 p2 p3 f0 f2 f3 KB HC4 HL4 HB4
  have HG4 := Lib.hid (fun wx (hb : Below w.heap.size w wx) => H.out.below hb)
  have c3 : W4.cell? ⟨L.g, 3, none⟩ = some (.slice L.da x.js.length L.dc) := (HG4.out W4 I4.out.below).gate.cell 3
  go_wp2_with fail
  clear HG HSZ K3 HB3
  go_loopw [30] (fun s30 wr => ∃ k : Nat, k ≤ x.js.length ∧ s30 = .int .i64 k ∧ ∃ dv ps, ps.length = k ∧ CyI w x L cp lm K dv ps wr) (fun s30 _ => x.js.length - intA s30)
  case atStart => exact ⟨0, Nat.zero_le _, rfl, _, [], rfl, I4.out⟩
  case round =>
   obtain ⟨k, hk, rfl, dv, ps, hps, hI⟩ := hrel
   have HI := Lib.hid hI
   have HPS := Lib.hid hps
   clear hI I4 c3 hps
   rcases Nat.lt_or_ge k x.js.length with hlt | hge
   ·obtain ⟨jt, hjt⟩ : ∃ jt, x.js[k]? = some jt := ⟨_, List.getElem?_eq_getElem hlt⟩
    have HJT := Lib.hid hjt
    obtain ⟨db, ds, hda, hdb, hdc⟩ := (HG4.out wr HI.out.below).door (by omega)
    obtain ⟨hd0, hd1⟩ := hdc k hlt
    rw [hda]
    have e0 : wr.cell? ⟨db, k * 2, none⟩ = some (.pointer (some ⟨L.li k, 0, none⟩)) := by rw [hdb.cell]; exact hd0
    have e1 : wr.cell? ⟨db, k * 2 + 1, none⟩ = some (.pointer (some ⟨L.bo k, 0, none⟩)) := by rw [hdb.cell]; exact hd1
    have hn9 : x.js.length ≤ 64 := HN.out
    have hml1 : k + 1 ≤ maxLen := by unfold maxLen; omega
    have hml2 : (k + 1) * 16 ≤ 140737488355328 := by omega
    clear hdc hd0 hd1 hdb hda hjt
    go_upto_region 8 with fail
    obtain ⟨W5, hW5⟩ : ∃ W5, W5 = wr.alloc (.cells #[.pointer (some ⟨L.li k, 0, none⟩), .pointer (some ⟨L.bo k, 0, none⟩)] 125) := ⟨_, rfl⟩
    have D5 : Hid (Blk W5 wr.heap.size 125 #[.pointer (some ⟨L.li k, 0, none⟩), .pointer (some ⟨L.bo k, 0, none⟩)]) := Lib.hid (by rw [hW5]; exact Blk.new _ _ _)
    have HB5 : Hid (Below wr.heap.size wr W5) := Lib.hid (by rw [hW5]; exact (Below.refl _ _).alloc (Nat.le_refl _) _)
    have HI5 := Lib.hid (HI.out.next HB5.out)
    have HJ := Lib.hid (fun wx (hb : Below W5.heap.size W5 wx) => (HG4.out wx (HI5.out.next hb).below).job k jt HJT.out)
    rw [← hW5]
    clear hW5 e0 e1
    obtain ⟨i0, hi0, hz0, hz1, hz2⟩ := info_parts info_door
    refine wp_region_put_tail _ 10 _ (R := R8 W5 jt K wr.heap.size (L.li k) (L.bo k) dv) (by rfl) (by kernel_rfl) (by kernel_rfl) (by kernel_rfl) (by kernel_rfl) (by kernel_rfl) (by kernel_rfl) (by kernel_rfl) (by kernel_rfl) ?_ ?_ ?_
    ·intro v
     exact ⟨fun i hi => (rep_not hi).elim, (Below.refl _ _).drew, fun hz => (rep_not hz).elim, fun hz => (rep_not hz).elim, fun hz => (rep_not hz).elim, fun hz => (rep_not hz).elim⟩
    ·intro Q' K_ listed v wx i o hsz ho hli ha hR hK
     have HV := Lib.hid hR
     have dep := fun d hd => hR.all d (dep_listed ha d hd)
     have hi : i < 10 := (List.getElem?_eq_some_iff.1 ho).1
     clear hR hsz
     obtain rfl | rfl | rfl | rfl | rfl | rfl | rfl | rfl | rfl | rfl : i = 0 ∨ i = 1 ∨ i = 2 ∨ i = 3 ∨ i = 4 ∨ i = 5 ∨ i = 6 ∨ i = 7 ∨ i = 8 ∨ i = 9 := by omega
     ·-- operation 0
      cases ho
      simp only [putFrom, Act.put, List.take_succ_cons, List.take_zero, List.setIfInBounds_toArray, List.set_cons_succ, List.set_cons_zero] at hK ⊢
      go_simp
      exact hK _ _ (HV.out.step (by decide) rfl)
     ·-- operation 1
      cases ho
      have h0 := dep 0 (by kernel_rfl)
      replace h0 : v 0 = _ := h0
      have c3 : wx.cell? ⟨K, 3, none⟩ = some dv := (HI5.out.next HV.out.bel).gate.cell 3
      simp only [putFrom, Act.put, List.take_succ_cons, List.take_zero, List.setIfInBounds_toArray, List.set_cons_succ, List.set_cons_zero, h0] at hK ⊢
      go_simp
      exact hK _ _ (HV.out.step (by decide) rfl)
     ·-- operation 2
      cases ho
      simp only [putFrom, Act.put, List.take_succ_cons, List.take_zero, List.setIfInBounds_toArray, List.set_cons_succ, List.set_cons_zero] at hK ⊢
      go_simp
      exact hK _ _ (HV.out.step (by decide) rfl)
     ·-- operation 3
      cases ho
      have h2 := dep 2 (by kernel_rfl)
      replace h2 : v 2 = _ := h2
      have d0 : wx.cell? ⟨wr.heap.size, 0, none⟩ = some (.pointer (some ⟨L.li k, 0, none⟩)) := (D5.out.below HV.out.bel D5.out.lt).cell 0
      simp only [putFrom, Act.put, List.take_succ_cons, List.take_zero, List.setIfInBounds_toArray, List.set_cons_succ, List.set_cons_zero, h2] at hK ⊢
      go_simp
      exact hK _ _ (HV.out.step (by decide) rfl)
     ·-- operation 4
      cases ho
      have h3 := dep 3 (by kernel_rfl)
      replace h3 : v 3 = _ := h3
      have CP := lcopy_ok (HJ.out wx HV.out.bel).1
      simp only [putFrom, Act.put, List.take_succ_cons, List.take_zero, List.setIfInBounds_toArray, List.set_cons_succ, List.set_cons_zero, h3] at hK ⊢
      go_simp
      refine CP.mono ?_
      rintro _ w5 ⟨rfl, h1, h2, h3⟩
      exact hK _ _ (HV.out.lim hli h2 h1 (Nat.le_refl _))
     ·-- operation 5
      cases ho
      simp only [putFrom, Act.put, List.take_succ_cons, List.take_zero, List.setIfInBounds_toArray, List.set_cons_succ, List.set_cons_zero] at hK ⊢
      go_simp
      exact hK _ _ (HV.out.step (by decide) rfl)
     ·-- operation 6
      cases ho
      have h5 := dep 5 (by kernel_rfl)
      replace h5 : v 5 = _ := h5
      have d1 : wx.cell? ⟨wr.heap.size, 1, none⟩ = some (.pointer (some ⟨L.bo k, 0, none⟩)) := (D5.out.below HV.out.bel D5.out.lt).cell 1
      simp only [putFrom, Act.put, List.take_succ_cons, List.take_zero, List.setIfInBounds_toArray, List.set_cons_succ, List.set_cons_zero, h5] at hK ⊢
      go_simp
      exact hK _ _ (HV.out.step (by decide) rfl)
     ·-- operation 7
      cases ho
      have h6 := dep 6 (by kernel_rfl)
      replace h6 : v 6 = _ := h6
      have CP := BK.copy_ok (HJ.out wx HV.out.bel).2
      simp only [putFrom, Act.put, List.take_succ_cons, List.take_zero, List.setIfInBounds_toArray, List.set_cons_succ, List.set_cons_zero, h6] at hK ⊢
      go_simp
      refine CP.mono ?_
      rintro _ w5 ⟨rfl, h1, h2, h3⟩
      exact hK _ _ (HV.out.box hli h2 h1 (Nat.le_refl _))
     ·-- operation 8
      cases ho
      have h4 := dep 4 (by kernel_rfl)
      replace h4 : v 4 = .pointer (some ⟨blkP (v 4), 0, none⟩) := h4
      have h7 := dep 7 (by kernel_rfl)
      replace h7 : v 7 = .pointer (some ⟨blkP (v 7), 0, none⟩) := h7
      have E := Lib.hid (And.intro h4 h7)
      generalize blkP (v 4) = b4 at h4 E
      generalize blkP (v 7) = b7 at h7 E
      simp only [putFrom, Act.put, List.take_succ_cons, List.take_zero, List.setIfInBounds_toArray, List.set_cons_succ, List.set_cons_zero, h4, h7] at hK ⊢
      go_simp
      refine hK _ _ ?_
      have hh := HV.out.both hli (dep_listed ha 4 (by kernel_rfl)) (dep_listed ha 7 (by kernel_rfl))
      rw [E.out.1, E.out.2] at hh
      exact hh
     ·-- operation 9
      cases ho
      have h8 := HV.out.e (dep_listed ha 8 (by kernel_rfl))
      have e4 := HV.out.all 4 h8.2.1
      replace e4 : v 4 = .pointer (some ⟨blkP (v 4), 0, none⟩) := e4
      have e7 := HV.out.all 7 h8.2.2
      replace e7 : v 7 = .pointer (some ⟨blkP (v 7), 0, none⟩) := e7
      have E := Lib.hid (And.intro e4 e7)
      replace h8 := h8.1
      rw [e4, e7] at h8
      generalize blkP (v 4) = b4 at h8 E
      generalize blkP (v 7) = b7 at h8 E
      clear e4 e7
      simp only [putFrom, Act.put, List.take_succ_cons, List.take_zero, List.setIfInBounds_toArray, List.set_cons_succ, List.set_cons_zero, h8] at hK ⊢
      go_simp
      exact hK _ _ (HV.out.row (dep_listed ha 8 (by kernel_rfl)) (by rw [E.out.1, E.out.2]))
    ·intro v listed w9 hall hR
     have h1 := hR.all 1 (hall 1 (by decide))
     replace h1 : v 1 = dv := h1
     have h9 := hR.all 9 (hall 9 (by decide))
     replace h9 : v 9 = .slice (some ⟨blkS (v 9), 0, none⟩) 1 1 := h9
     have h4 := hR.all 4 (hall 4 (by decide))
     replace h4 : v 4 = .pointer (some ⟨blkP (v 4), 0, none⟩) := h4
     have h7 := hR.all 7 (hall 7 (by decide))
     replace h7 : v 7 = .pointer (some ⟨blkP (v 7), 0, none⟩) := h7
     have hrow := (hR.r (hall 9 (by decide))).1
     rw [h4, h7] at hrow
     have HL8 := Lib.hid (hR.l (hall 4 (by decide)))
     have HX8 := Lib.hid (hR.b (hall 7 (by decide)))
     have HB8 := Lib.hid hR.bel
     clear h4 h7 hR hall
     generalize blkP (v 4) = l8 at hrow HL8
     generalize blkP (v 7) = b8 at hrow HX8
     generalize blkS (v 9) = r8 at h9 hrow
     simp only [putFrom, Act.put, List.take_succ_cons, List.take_zero, List.setIfInBounds_toArray, List.set_cons_succ, List.set_cons_zero, h1, h9]
     clear h1 h9
     have hnew := door_news hrow
     have hown := (HI5.out.next HB8.out).doors
     rw [HPS.out] at hown
     have hbs : w.heap.size ≤ w9.heap.size := Nat.le_trans HI5.out.below.size HB8.out.size
     clear hrow
     refine wpList_append_lies _ rfl _ _ 116 rfl w.heap.size 125 i0 (.agg #[.pointer none, .pointer none]) 2 16 Tryz.underlying116 hi0 hz0 hz1 hz2 rfl (by decide) dv k (doorsC ps) rfl hown ⟨r8, 0, none⟩ 1 1 [.pointer (some ⟨l8, 0, none⟩), .pointer (some ⟨b8, 0, none⟩)] rfl rfl hnew (by simp [Value.oneCell']) (by decide) hml1 hml2 hbs _ rfl ?_
     intro g8 cap8 w8 hown8 hgrow8 _ _
     have GN := Lib.hid hgrow8
     have ON := Lib.hid hown8
     have hgt := (HI5.out.next HB8.out)
     have hgate : Blk w8 K 118 #[.pointer (some ⟨cp, 0, none⟩), .int .i64 x.cap, .pointer (some ⟨lm, 0, none⟩), dv, .slice L.ea x.js.length L.ec, .int .i64 x.last] := (hgrow8.block _ hgt.gate.lt (own_blk_ne hgt.doors hgt.gate (by decide))).trans hgt.gate
     have c3 : w8.cell? ⟨K, 3, none⟩ = some dv := hgate.cell 3
     have f3 : w8.frozen? ⟨K, 3, none⟩ = false := hgate.frozen 3
     clear hgt hgate hown8 hgrow8 hown hnew
     dsimp only [Act.put, List.setIfInBounds_toArray, List.set_cons_succ, List.set_cons_zero]
     go_wp2_with fail
     have HP : Hid (CyI w x L cp lm K (.slice (some ⟨g8, 0, none⟩) (k + 1) cap8) (ps ++ [(l8, b8)]) (w8.setCell ⟨K, 3, none⟩ (.slice (some ⟨g8, 0, none⟩) (k + 1) cap8))) := Lib.hid (by
      have h5 := HB5.out.size
      refine HI.out.push (HB5.out.trans (HB8.out.mono h5)) (by rw [HPS.out]; exact HJT.out) HL8.out.1 HX8.out.1 (by have := HL8.out.2; omega) (by have := HX8.out.2; omega) ?_ GN.out
      rw [HPS.out]
      exact ON.out)
     refine ⟨⟨k + 1, by omega, by go_num, _, _, by rw [List.length_append, HPS.out]; rfl, HP.out⟩, ?_⟩
     simp [intA]; omega
   ·obtain rfl : x.js.length = k := by omega
    obtain ⟨Y, hY, hY2, hY3, hY4⟩ := HI.out.fin HPS.out H.out
    have HY := Lib.hid (And.intro hY2 (And.intro hY3 hY4))
    have HBB := Lib.hid HI.out.below
    subst hY
    clear hY2 hY3 hY4 HI
    go_wp2_with fail
    go_ret
    exact ⟨Y, rfl, HY.out.1, HY.out.2.1, HY.out.2.2, HBB.out⟩
end Go.Proofs.YtpgckpafjiojfaaGreatDoor.AD
