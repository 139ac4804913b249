/- A gate of the program and one of the reference side by side: what their calls leave. -/
import Derived.Test.YtpgckpafjiojfaaGreatDoorAKl
import Derived.Test.YtpgckpafjiojfaaGreatDoorAKR
import Derived.Test.YtpgckpafjiojfaaGreatDoorAKA
import Derived.Test.YtpgckpafjiojfaaGreatDoorAHy
import Derived.Test.YtpgckpafjiojfaaGreatDoorAJp
namespace Go.Proofs.YtpgckpafjiojfaaGreatDoor.AD
open Go Go.RowKit BW
open BK (Bx BoxAt RBoxAt Blk only_refl only_drew only_drewN only_setCell only_trans only_of_below only_alloc below_drewN)
theorem RAt.keepB {w w' : World} {R : RLy} {x : Gt} (h : RAt w R x) (ht : Turn (R.own x.js.length) w w') {b : Nat} {t : TypeId} {cs : Array Value} (hb : Blk w b t cs) (n1 : t ≠ 150) (n2 : t ≠ 196) (n3 : t ≠ 3) (n4 : t ≠ 199) : Blk w' b t cs := by
 refine (ht.block b hb.lt ?_).trans hb
 rintro (rfl | rfl | ⟨h0, e⟩ | ⟨k, hk, hi⟩)
 ·exact blk_ne hb h.gate n1 rfl
 ·exact blk_ne hb h.lm n2 rfl
 ·exact h.rne h0 hb n3 e
 ·obtain ⟨h1, h2⟩ := h.job k _ (List.getElem?_eq_getElem hk)
  rcases hi with rfl | rfl
  ·exact blk_ne hb h1 n2 rfl
  ·exact blk_ne hb h2 n4 rfl
theorem GAt.ea_far {w : World} {L : Ly} {x : Gt} (h : GAt w L x) (h0 : 0 < x.js.length) {i o : Nat} (e : L.ea = some ⟨i, o, none⟩) : ¬ L.own x.js.length i := by
 obtain ⟨b, cs, e', h1, _⟩ := h.each h0
 rw [e] at e'
 injection e' with e'
 injection e' with e'
 subst e'
 rintro (rfl | rfl | rfl | ⟨k, hk, hi⟩)
 ·exact blk_ne h1 h.gate (by decide) rfl
 ·exact blk_ne h1 h.caps (by decide) rfl
 ·exact blk_ne h1 h.lm (by decide) rfl
 ·obtain ⟨h2, h3⟩ := h.job k _ (List.getElem?_eq_getElem hk)
  rcases hi with rfl | rfl
  ·exact blk_ne h1 h2 (by decide) rfl
  ·exact blk_ne h1 h3 (by decide) rfl
structure Two (B n : Nat) (w0 : World) (L : Ly) (R : RLy) (x y : Gt) (W : World) : Prop where
 g : GAt W L x
 r : RAt W R y
 gn : x.js.length = n
 rn : y.js.length = n
 ap : ∀ i, L.sup n i → ¬ R.sup n i
 lo : ∀ i, L.own n i → B ≤ i
 ro : ∀ i, R.own n i → B ≤ i
 bel : Below B w0 W
 le : B ≤ w0.heap.size
section
variable {B n : Nat} {w0 W W' : World} {L : Ly} {R : RLy} {x y z : Gt}
theorem Two.below (H : Two B n w0 L R x y W) (hb : Below W.heap.size W W') : Two B n w0 L R x y W' :=
 ⟨H.g.below hb, H.r.below hb, H.gn, H.rn, H.ap, H.lo, H.ro, H.bel.trans (hb.mono (Nat.le_trans H.le H.bel.size)), H.le⟩
theorem Two.turnG (H : Two B n w0 L R x y W) (hg : GAt W' L z) (ht : Turn (L.own x.js.length) W W') (hn : z.js.length = x.js.length) : Two B n w0 L R z y W' :=
 ⟨hg, H.r.turn ht (fun i hi ho => H.ap i (.inl (by rw [← H.gn]; exact ho)) (by rw [← H.rn]; exact hi)), hn.trans H.gn, H.rn, H.ap, H.lo, H.ro, ht.below (fun i ho => H.lo i (by rw [← H.gn]; exact ho)) H.bel H.le, H.le⟩
theorem Two.turnR (H : Two B n w0 L R x y W) (hr : RAt W' R z) (ht : Turn (R.own y.js.length) W W') (hn : z.js.length = y.js.length) : Two B n w0 L R x z W' :=
 ⟨H.g.turn ht (fun i hi ho => H.ap i (by rw [← H.gn]; exact hi) (.inl (by rw [← H.rn]; exact ho))), hr, H.gn, hn.trans H.rn, H.ap, H.lo, H.ro, ht.below (fun i ho => H.ro i (by rw [← H.rn]; exact ho)) H.bel H.le, H.le⟩
end
structure PlS (B n : Nat) (w0 : World) (sb : Nat) (s : Stp) (L : Ly) (R : RLy) (x y : Gt) (W : World) : Prop where
 t : Two B n w0 L R x y W
 st : Blk W sb 86 (stC s)
section
variable {B n sb : Nat} {s : Stp} {w0 W W' : World} {L : Ly} {R : RLy} {x y z : Gt}
theorem PlS.below (H : PlS B n w0 sb s L R x y W) (hb : Below W.heap.size W W') : PlS B n w0 sb s L R x y W' := ⟨H.t.below hb, H.st.below hb H.st.lt⟩
theorem PlS.turnG (H : PlS B n w0 sb s L R x y W) (hg : GAt W' L z) (ht : Turn (L.own x.js.length) W W') (hn : z.js.length = x.js.length) : PlS B n w0 sb s L R z y W' :=
 ⟨H.t.turnG hg ht hn, H.t.g.keeps ht _ _ _ H.st (by decide) (by decide) (by decide) (by decide)⟩
theorem PlS.turnR (H : PlS B n w0 sb s L R x y W) (hr : RAt W' R z) (ht : Turn (R.own y.js.length) W W') (hn : z.js.length = y.js.length) : PlS B n w0 sb s L R x z W' :=
 ⟨H.t.turnR hr ht hn, H.t.r.keepB ht H.st (by decide) (by decide) (by decide) (by decide)⟩
theorem pl_take (H : PlS B n w0 sb s L R x y W) (job now : Int) {er : Int} (he : x.take job now = (er, z)) : Calls Tryz.prog 13 #[.pointer (some ⟨L.g, 0, none⟩), .int .i64 job, .int .i64 now] W fun e w' => e = .returned (.int .i64 er) ∧ PlS B n w0 sb s L R z y w' :=
 (gtake_ok H.t.g job now).mono fun e w' ⟨h1, h2, h3⟩ => by rw [he] at h1 h2; exact ⟨h1, H.turnG h2 h3 ((congrArg (fun p => p.2.js.length) he).symm.trans Gt.take_len)⟩
theorem pl_trip (H : PlS B n w0 sb s L R x y W) (job now : Int) {er : Int} (he : x.trip job now = (er, z)) : Calls Tryz.prog 11 #[.pointer (some ⟨L.g, 0, none⟩), .int .i64 job, .int .i64 now] W fun e w' => e = .returned (.int .i64 er) ∧ PlS B n w0 sb s L R z y w' :=
 (gtrip_ok H.t.g job now).mono fun e w' ⟨h1, h2, h3⟩ => by rw [he] at h1 h2; exact ⟨h1, H.turnG h2 h3 ((congrArg (fun p => p.2.js.length) he).symm.trans Gt.switch_len)⟩
theorem pl_reset (H : PlS B n w0 sb s L R x y W) (job now : Int) {er : Int} (he : x.reset job now = (er, z)) : Calls Tryz.prog 12 #[.pointer (some ⟨L.g, 0, none⟩), .int .i64 job, .int .i64 now] W fun e w' => e = .returned (.int .i64 er) ∧ PlS B n w0 sb s L R z y w' :=
 (greset_ok H.t.g job now).mono fun e w' ⟨h1, h2, h3⟩ => by rw [he] at h1 h2; exact ⟨h1, H.turnG h2 h3 ((congrArg (fun p => p.2.js.length) he).symm.trans Gt.switch_len)⟩
theorem pl_give (H : PlS B n w0 sb s L R x y W) (job : Int) (ok : Bool) (now : Int) {ev er : Int} (he : x.give job ok now = (ev, er, z)) : Calls Tryz.prog 10 #[.pointer (some ⟨L.g, 0, none⟩), .int .i64 job, .bool ok, .int .i64 now] W fun e w' => e = .returned (.tuple #[.int .i64 ev, .int .i64 er]) ∧ PlS B n w0 sb s L R z y w' :=
 (ggive_ok H.t.g job ok now).mono fun e w' ⟨h1, h2, h3⟩ => by rw [he] at h1 h2; exact ⟨h1, H.turnG h2 h3 ((congrArg (fun p => p.2.2.js.length) he).symm.trans Gt.give_len)⟩
theorem pl_rtake (H : PlS B n w0 sb s L R x y W) (job now : Int) {er : Int} (he : y.take job now = (er, z)) : Calls Tryz.prog 25 #[.pointer (some ⟨R.g, 0, none⟩), .int .i64 job, .int .i64 now] W fun e w' => e = .returned (.int .i64 er) ∧ PlS B n w0 sb s L R x z w' :=
 (rgtake_ok H.t.r job now).mono fun e w' ⟨h1, h2, h3⟩ => by rw [he] at h1 h2; exact ⟨h1, H.turnR h2 h3 ((congrArg (fun p => p.2.js.length) he).symm.trans Gt.take_len)⟩
theorem pl_rtrip (H : PlS B n w0 sb s L R x y W) (job now : Int) {er : Int} (he : y.trip job now = (er, z)) : Calls Tryz.prog 27 #[.pointer (some ⟨R.g, 0, none⟩), .int .i64 job, .int .i64 now] W fun e w' => e = .returned (.int .i64 er) ∧ PlS B n w0 sb s L R x z w' :=
 (rgtrip_ok H.t.r job now).mono fun e w' ⟨h1, h2, h3⟩ => by rw [he] at h1 h2; exact ⟨h1, H.turnR h2 h3 ((congrArg (fun p => p.2.js.length) he).symm.trans Gt.switch_len)⟩
theorem pl_rreset (H : PlS B n w0 sb s L R x y W) (job now : Int) {er : Int} (he : y.reset job now = (er, z)) : Calls Tryz.prog 28 #[.pointer (some ⟨R.g, 0, none⟩), .int .i64 job, .int .i64 now] W fun e w' => e = .returned (.int .i64 er) ∧ PlS B n w0 sb s L R x z w' :=
 (rgreset_ok H.t.r job now).mono fun e w' ⟨h1, h2, h3⟩ => by rw [he] at h1 h2; exact ⟨h1, H.turnR h2 h3 ((congrArg (fun p => p.2.js.length) he).symm.trans Gt.switch_len)⟩
theorem pl_rgive (H : PlS B n w0 sb s L R x y W) (job : Int) (ok : Bool) (now : Int) {ev er : Int} (he : y.give job ok now = (ev, er, z)) : Calls Tryz.prog 26 #[.pointer (some ⟨R.g, 0, none⟩), .int .i64 job, .bool ok, .int .i64 now] W fun e w' => e = .returned (.tuple #[.int .i64 ev, .int .i64 er]) ∧ PlS B n w0 sb s L R x z w' :=
 (rggive_ok H.t.r job ok now).mono fun e w' ⟨h1, h2, h3⟩ => by rw [he] at h1 h2; exact ⟨h1, H.turnR h2 h3 ((congrArg (fun p => p.2.2.js.length) he).symm.trans Gt.give_len)⟩
end
structure PlO (B n : Nat) (w0 : World) (sb : Nat) (s : Stp) (O L : Ly) (R : RLy) (u x y : Gt) (W : World) : Prop where
 p : PlS B n w0 sb s L R x y W
 o : GAt W O u
 on : u.js.length = n
 oa : ∀ i, O.own n i → ¬ L.sup n i ∧ ¬ R.sup n i ∧ B ≤ i
section
variable {B n sb : Nat} {s : Stp} {w0 W W' : World} {O L : Ly} {R : RLy} {u x y z : Gt}
theorem PlO.turn (H : PlO B n w0 sb s O L R u x y W) (hg : GAt W' O z) (ht : Turn (O.own u.js.length) W W') (hn : z.js.length = u.js.length) : PlO B n w0 sb s O L R z x y W' :=
 have f : ∀ i, O.own u.js.length i → ¬ L.sup n i ∧ ¬ R.sup n i ∧ B ≤ i := fun i ho => H.oa i (by rw [← H.on]; exact ho)
 ⟨⟨⟨H.p.t.g.turn ht (fun i hi ho => (f i ho).1 (by rw [← H.p.t.gn]; exact hi)), H.p.t.r.turn ht (fun i hi ho => (f i ho).2.1 (by rw [← H.p.t.rn]; exact hi)), H.p.t.gn, H.p.t.rn, H.p.t.ap, H.p.t.lo, H.p.t.ro, ht.below (fun i ho => (f i ho).2.2) H.p.t.bel H.p.t.le, H.p.t.le⟩, H.o.keeps ht _ _ _ H.p.st (by decide) (by decide) (by decide) (by decide)⟩, hg, hn.trans H.on, H.oa⟩
theorem pl_otake (H : PlO B n w0 sb s O L R u x y W) (job now : Int) : Calls Tryz.prog 13 #[.pointer (some ⟨O.g, 0, none⟩), .int .i64 job, .int .i64 now] W fun e w' => ∃ er z, e = .returned (.int .i64 er) ∧ PlO B n w0 sb s O L R z x y w' :=
 (gtake_ok H.o job now).mono fun _ _ ⟨h1, h2, h3⟩ => ⟨_, _, h1, H.turn h2 h3 Gt.take_len⟩
theorem pl_otrip (H : PlO B n w0 sb s O L R u x y W) (job now : Int) : Calls Tryz.prog 11 #[.pointer (some ⟨O.g, 0, none⟩), .int .i64 job, .int .i64 now] W fun e w' => ∃ er z, e = .returned (.int .i64 er) ∧ PlO B n w0 sb s O L R z x y w' :=
 (gtrip_ok H.o job now).mono fun _ _ ⟨h1, h2, h3⟩ => ⟨_, _, h1, H.turn h2 h3 Gt.switch_len⟩
theorem pl_copy (H : PlS B n w0 sb s L R x y W) : Calls Tryz.prog 22 #[.pointer (some ⟨L.g, 0, none⟩)] W fun e w' => ∃ Y : Ly, e = .returned (.pointer (some ⟨Y.g, 0, none⟩)) ∧ PlO B n w0 sb s L Y R x x y w' :=
 (gcopy_ok H.t.g).mono fun e w' ⟨Y, h1, hY, hown, hsup, hb⟩ => by
  rw [H.t.gn] at hown hsup
  have hB : B ≤ W.heap.size := Nat.le_trans H.t.le H.t.bel.size
  have key : ∀ i, Y.sup n i → W.heap.size ≤ i ∨ (0 < n ∧ ∃ o, L.ea = some ⟨i, o, none⟩) := fun i hi => by
   rcases hsup i hi with h | h
   ·exact .inl h
   ·rcases hi with hi | ⟨h0, _⟩ | ⟨h0, _⟩
    ·exact .inl (hown i hi)
    ·exact .inr ⟨h0, h⟩
    ·exact .inr ⟨h0, h⟩
  refine ⟨Y, h1, ⟨⟨hY, H.t.r.below hb, H.t.gn, H.t.rn, fun i hi hr => ?_, fun i hi => Nat.le_trans hB (hown i hi), H.t.ro, H.t.bel.trans (hb.mono hB), H.t.le⟩, H.st.below hb H.st.lt⟩, H.t.g.below hb, H.t.gn, fun i hi => ⟨fun hs => ?_, fun hr => H.t.ap i (.inl hi) hr, H.t.lo i hi⟩⟩
  ·rcases key i hi with h | ⟨h0, h⟩
   ·have := H.t.r.lt (i := i) (by rw [H.t.rn]; exact hr)
    omega
   ·exact H.t.ap i (.inr (.inr ⟨h0, h⟩)) hr
  ·rcases key i hs with h | ⟨h0, o, e⟩
   ·have := H.t.g.lt (i := i) (.inl (by rw [H.t.gn]; exact hi))
    omega
   ·exact H.t.g.ea_far (by rw [H.t.gn]; exact h0) e (by rw [H.t.gn]; exact hi)
end
def QP (gp rp : Value) (sb : Nat) (job now er : Int) (i : Nat) (v : Value) : Prop := match i with
 | 0 => v = gp
 | 1 => v = .pointer (some ⟨sb, 1, none⟩)
 | 2 => v = .int .i64 job
 | 3 => v = .pointer (some ⟨sb, 3, none⟩)
 | 4 => v = .int .i64 now
 | 5 => v = .int .i64 er
 | 6 => v = rp
 | 7 => v = .pointer (some ⟨sb, 1, none⟩)
 | 8 => v = .int .i64 job
 | 9 => v = .pointer (some ⟨sb, 3, none⟩)
 | 10 => v = .int .i64 now
 | 11 => v = .int .i64 er
 | 12 => v = .bool true
 | _ => True
structure RP (S0 S1 S2 : World → Prop) (gp rp : Value) (sb : Nat) (s : Stp) (er : Int) (listed : Array Bool) (v : Nat → Value) (W : World) : Prop where
 pl : ∀ i, listed[i]? = some true → QP gp rp sb s.job s.now er i (v i)
 s0 : listed[5]? = some false → S0 W
 s1 : listed[5]? = some true → listed[11]? = some false → S1 W
 s2 : listed[11]? = some true → S2 W
 st : Blk W sb 86 (stC s)
 o : listed[11]? = some true → listed[5]? = some true
section
variable {S0 S1 S2 : World → Prop} {gp rp : Value} {sb : Nat} {s : Stp} {er : Int} {listed : Array Bool} {v : Nat → Value} {W W' : World}
theorem RP.step (h : RP S0 S1 S2 gp rp sb s er listed v W) {i : Nat} {u : Value} (hp : QP gp rp sb s.job s.now er i u) (h5 : i ≠ 5) (h11 : i ≠ 11) : RP S0 S1 S2 gp rp sb s er (listed.setIfInBounds i true) (updC v i u) W := by
 have t : ∀ {j}, j ≠ i → (listed.setIfInBounds i true)[j]? = some true → listed[j]? = some true := fun hj hz => (set_at _ hz).resolve_left hj
 have n5 : ∀ {y}, (listed.setIfInBounds i true)[5]? = y → listed[5]? = y := fun hz => by rw [Array.getElem?_setIfInBounds_ne h5] at hz; exact hz
 have n11 : ∀ {y}, (listed.setIfInBounds i true)[11]? = y → listed[11]? = y := fun hz => by rw [Array.getElem?_setIfInBounds_ne h11] at hz; exact hz
 refine ⟨fun m hm => ?_, fun hz => h.s0 (n5 hz), fun hz hy => h.s1 (n5 hz) (n11 hy), fun hz => h.s2 (n11 hz), h.st, fun hz => set_keep (h.o (n11 hz))⟩
 by_cases e : m = i
 ·subst e; rw [updC_eq]; exact hp
 ·rw [updC_ne e]; exact h.pl m (t e hm)
theorem RP.call5 (h : RP S0 S1 S2 gp rp sb s er listed v W) (hli : listed[5]? = some false) (hs : S1 W') (hst : Blk W' sb 86 (stC s)) : RP S0 S1 S2 gp rp sb s er (listed.setIfInBounds 5 true) (updC v 5 (.int .i64 er)) W' := by
 have t : ∀ {j}, j ≠ 5 → (listed.setIfInBounds 5 true)[j]? = some true → listed[j]? = some true := fun hj hz => (set_at _ hz).resolve_left hj
 have hl : 5 < listed.size := (Array.getElem?_eq_some_iff.1 hli).1
 refine ⟨fun m hm => ?_, fun hz => ?_, fun _ _ => hs, fun hz => ?_, hst, fun _ => ?_⟩
 ·by_cases e : m = 5
  ·subst e; rw [updC_eq]; exact rfl
  ·rw [updC_ne e]; exact h.pl m (t e hm)
 ·rw [Array.getElem?_setIfInBounds_self_of_lt hl] at hz; cases hz
 ·have := h.o (t (by decide) hz)
  rw [hli] at this; cases this
 ·rw [Array.getElem?_setIfInBounds_self_of_lt hl]
theorem RP.call11 (h : RP S0 S1 S2 gp rp sb s er listed v W) (h5 : listed[5]? = some true) (hli : listed[11]? = some false) (hs : S2 W') (hst : Blk W' sb 86 (stC s)) : RP S0 S1 S2 gp rp sb s er (listed.setIfInBounds 11 true) (updC v 11 (.int .i64 er)) W' := by
 have t : ∀ {j}, j ≠ 11 → (listed.setIfInBounds 11 true)[j]? = some true → listed[j]? = some true := fun hj hz => (set_at _ hz).resolve_left hj
 have hl : 11 < listed.size := (Array.getElem?_eq_some_iff.1 hli).1
 refine ⟨fun m hm => ?_, fun hz => ?_, fun _ hz => ?_, fun _ => hs, hst, fun _ => set_keep h5⟩
 ·by_cases e : m = 11
  ·subst e; rw [updC_eq]; exact rfl
  ·rw [updC_ne e]; exact h.pl m (t e hm)
 ·rw [Array.getElem?_setIfInBounds_ne (by decide)] at hz
  rw [h5] at hz; cases hz
 ·rw [Array.getElem?_setIfInBounds_self_of_lt hl] at hz; cases hz
end
end Go.Proofs.YtpgckpafjiojfaaGreatDoor.AD
