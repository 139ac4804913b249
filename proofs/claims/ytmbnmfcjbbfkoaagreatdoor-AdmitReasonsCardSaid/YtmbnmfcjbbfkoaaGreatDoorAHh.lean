/- The walk of wakemanlaw35.AdmitReasons. -/
import Derived.Test.YtmbnmfcjbbfkoaaGreatDoorAHg
namespace Go.Proofs.YtmbnmfcjbbfkoaaGreatDoor.AD
open Go Go.RowKit BW
open BK (Bx BoxAt Blk only_refl only_drew only_drewN only_setCell only_trans only_of_below only_alloc below_drewN)
theorem idx_b5 (a b c d e : Bool) (W : World) : (Instr.index 63 (.agg #[.bool a, .bool b, .bool c, .bool d, .bool e]) (.int .i64 0)).run Tryz.prog W = .ok (.bool a) W ∧ (Instr.index 63 (.agg #[.bool a, .bool b, .bool c, .bool d, .bool e]) (.int .i64 1)).run Tryz.prog W = .ok (.bool b) W ∧ (Instr.index 63 (.agg #[.bool a, .bool b, .bool c, .bool d, .bool e]) (.int .i64 2)).run Tryz.prog W = .ok (.bool c) W ∧ (Instr.index 63 (.agg #[.bool a, .bool b, .bool c, .bool d, .bool e]) (.int .i64 3)).run Tryz.prog W = .ok (.bool d) W ∧ (Instr.index 63 (.agg #[.bool a, .bool b, .bool c, .bool d, .bool e]) (.int .i64 4)).run Tryz.prog W = .ok (.bool e) W := by
  refine ⟨?_, ?_, ?_, ?_, ?_⟩ <;> (unfold Instr.index; simp [go_sem])
theorem pol_brk (r : Rl) : BK.zero (polR r).f (polR r).o (polR r).r = true ∨ BK.ruled (polR r).f (polR r).o (polR r).r = true := by
  unfold BK.zero BK.ruled BK.maxSpan polR
  simp only [decide_eq_true_eq]
  by_cases h : r.fa % 4 = 0
  · rw [if_pos h, if_pos h, if_pos h]; exact .inl ⟨rfl, rfl, rfl⟩
  · rw [if_neg h, if_neg h, if_neg h]; right; omega
section
variable {B T n : Nat} {w0 : World} {L : Ly} {al ol ob cb pb : Nat} {cf : Cf} {y : Po} {x x' : Gt} {m l : Lm} {bx : Bx} {W : World}
theorem rs_why (h : RsI B T n w0 L al ol ob cb pb cf y x m l bx W) (t : Int) {v er : Int} (he : x.Why 0 t = (v, er)) : Calls Tryz.prog 19 #[.pointer (some ⟨L.g, 0, none⟩), .int .i64 0, .int .i64 t] W fun e w' => e = .returned (.tuple #[.int .i64 v, .int .i64 er]) ∧ RsI B T n w0 L al ol ob cb pb cf y x m l bx w' ∧ Below W.heap.size W w' :=
  (gwhy_ok h.g 0 t).mono fun e w' ⟨h1, h2⟩ => by rw [he] at h1; exact ⟨h1, h.below h2, h2⟩
theorem rs_give (h : RsI B T n w0 L al ol ob cb pb cf y x m l bx W) (ok : Bool) (t : Int) {ev er : Int} (he : x.give 0 ok t = (ev, er, x')) : Calls Tryz.prog 20 #[.pointer (some ⟨L.g, 0, none⟩), .int .i64 0, .bool ok, .int .i64 t] W fun e w' => e = .returned (.tuple #[.int .i64 ev, .int .i64 er]) ∧ RsI B T n w0 L al ol ob cb pb cf y x' m l bx w' :=
  (ggive_ok h.g 0 ok t).mono fun e w' ⟨h1, h2, h3⟩ => by
    have hl := Gt.give_len (x := x) (job := 0) (now := t) (ok := ok)
    rw [he] at h1 h2 hl
    exact ⟨h1, h.turn h2 h3 hl⟩
theorem rs_take (h : RsI B T n w0 L al ol ob cb pb cf y x m l bx W) (t : Int) {er : Int} (he : x.take 0 t = (er, x')) : Calls Tryz.prog 22 #[.pointer (some ⟨L.g, 0, none⟩), .int .i64 0, .int .i64 t] W fun e w' => e = .returned (.int .i64 er) ∧ RsI B T n w0 L al ol ob cb pb cf y x' m l bx w' :=
  (gtake_ok h.g 0 t).mono fun e w' ⟨h1, h2, h3⟩ => by
    have hl := Gt.take_len (x := x) (job := 0) (now := t)
    rw [he] at h1 h2 hl
    exact ⟨h1, h.turn h2 h3 hl⟩
theorem rs_report (h : RsI B T n w0 L al ol ob cb pb cf y x m l bx W) (hi : BK.Inv bx) (ok : Bool) (t : Int) (he : (BK.report bx ok t).2.1 = 0) : Calls Tryz.prog 21 #[.pointer (some ⟨ob, 0, none⟩), .bool ok, .int .i64 t] W fun e w' => e = .returned (.tuple #[.int .i64 (BK.report bx ok t).1, .int .i64 0]) ∧ RsI B T n w0 L al ol ob cb pb cf y x m l (BK.report bx ok t).2.2 w' :=
  (BK.report_ok h.b hi ok t).mono fun e w' ⟨h1, h2, h3⟩ => by rw [he] at h1; exact ⟨h1, h.setB h2 h3⟩
theorem rs_takeA (h : RsI B T n w0 L al ol ob cb pb cf y x m l bx W) (hi : m.Inv) (t : Int) (he : m.take t = (0, m.count t)) : Calls Tryz.prog 23 #[.pointer (some ⟨al, 0, none⟩), .int .i64 t] W fun e w' => e = .returned (.int .i64 0) ∧ RsI B T n w0 L al ol ob cb pb cf y x (m.count t) l bx w' :=
  (ltake_ok h.a hi t).mono fun e w' ⟨h1, h2, h3⟩ => by rw [he] at h1 h2; exact ⟨h1, h.setA h2 h3⟩
theorem rs_takeO (h : RsI B T n w0 L al ol ob cb pb cf y x m l bx W) (hi : l.Inv) (t : Int) (he : l.take t = (0, l.count t)) : Calls Tryz.prog 23 #[.pointer (some ⟨ol, 0, none⟩), .int .i64 t] W fun e w' => e = .returned (.int .i64 0) ∧ RsI B T n w0 L al ol ob cb pb cf y x m (l.count t) bx w' :=
  (ltake_ok h.o hi t).mono fun e w' ⟨h1, h2, h3⟩ => by rw [he] at h1 h2; exact ⟨h1, h.setO h2 h3⟩
theorem rs_takeB (h : RsI B T n w0 L al ol ob cb pb cf y x m l bx W) (hi : BK.Inv bx) (t : Int) (he : (BK.take bx t).1 = 0) : Calls Tryz.prog 24 #[.pointer (some ⟨ob, 0, none⟩), .int .i64 t] W fun e w' => e = .returned (.int .i64 0) ∧ RsI B T n w0 L al ol ob cb pb cf y x m l (BK.take bx t).2 w' :=
  (BK.take_ok h.b hi t).mono fun e w' ⟨h1, h2, h3⟩ => by rw [he] at h1; exact ⟨h1, h.setB h2 h3⟩
end
theorem RsK.invs {x : Gt} {m l : Lm} {bx : Bx} {c1 runs now : Int} (h : RsK x m l bx c1 runs now) (hi : x.Inv) : m.Inv ∧ l.Inv ∧ BK.Inv bx ∧ c1 ≤ 1000 := by
  have h1 := hi.both
  rw [h.both] at h1
  have h2 := hi.js ⟨c1, runs, l, bx⟩ (by rw [h.js]; exact List.mem_cons_self)
  exact ⟨h1, h2.2.2.1, h2.2.2.2, h2.1.2⟩
/-- Made of one rule. -/
theorem made_one (r : Rl) (hr : r.ok) (lim tau most : Nat) (h1 : lim < 256) (h2 : tau < 256) (h3 : most < 256) (q : Nat) (w : World) (hq : Blk w q 23 (rlC r)) :
    Calls Tryz.prog 13 #[.slice (some ⟨q, 0, none⟩) 1 1, .int .u8 lim, .int .u8 tau, .int .u8 most] w fun e w' => ∃ g c', e = .returned (.agg #[.int .i64 (1 + (most : Int) % 8), .int .i64 1, .int .i64 0, .int .i64 1, .int .u64 0, .int .i64 (smT lim), .int .i64 (smA lim tau), .slice (some ⟨g, 0, none⟩) 1 c']) ∧ OwnsC w.heap.size (.slice (some ⟨g, 0, none⟩) 1 c') (madeFrom 0 [r]) w' ∧ Below w.heap.size w w' :=
  (made_ok [r] (some ⟨q, 0, none⟩) 1 1 rfl lim tau most h1 h2 h3 (by decide) (by decide) (Nat.le_refl _) w (fun k hk => by
    have : k = 0 := by simpa using hk
    subst this
    exact ⟨q, 0, rfl, fun i _ => by rw [Nat.zero_mul, Nat.add_zero, Nat.zero_add]; exact hq.cell i, hr⟩)).mono fun e w' ⟨a', c', he, ho, hb⟩ => by
      obtain ⟨a2, c2, e2, h4, h5⟩ := ho.shape
      injection e2 with e3 e4 e5
      subst e3
      obtain ⟨g, rfl⟩ := h5 (show 0 < 1 from Nat.one_pos)
      exact ⟨g, c', he, ho, hb⟩

set_option maxRecDepth 100000 in
set_option maxHeartbeats 4000000 in
theorem reasons_walk (r : Rl) (hr : r.ok) (lim tau most : Nat) (a : Option Addr) (ms : List Mv) (n c : Nat) (h1 : lim < 256) (h2 : tau < 256) (h3 : most < 256) (hn : ms.length = n) (hnc : n ≤ c) (h9 : n ≤ 9223372036854775807) (w : World) (hM : MovesAt w a ms) (hT : SpTab w) (hTab : Tab w) :
    Calls Tryz.prog 3 #[.agg #[.int .u8 r.cap, .int .u8 r.t, .int .u8 r.tau, .int .u8 r.fa, .int .u8 r.op, .int .u8 r.pr], .int .u8 lim, .int .u8 tau, .int .u8 most, .slice a n c] w fun e w' => e = .returned (.bool true) ∧ Below w.heap.size w w' := by
  have TT := Lib.hid (fun W (hb : Below w.heap.size w W) => And.intro (hT.below hb) (tab_below hTab hb (tab_lt hTab)))
  have HM := Lib.hid hM
  have HN := Lib.hid hn
  have MD := Lib.hid (made_one r hr lim tau most h1 h2 h3 (w.heap.size + 1) ((w.alloc (.cells #[.int .u8 r.cap, .int .u8 r.t, .int .u8 r.tau, .int .u8 r.fa, .int .u8 r.op, .int .u8 r.pr] 23)).alloc (.cells #[.int .u8 r.cap, .int .u8 r.t, .int .u8 r.tau, .int .u8 r.fa, .int .u8 r.op, .int .u8 r.pr] 23)) (blk_newAt (by simp)))
  have B0 := Lib.hid (two_boxes w (.cells #[.int .u8 r.cap, .int .u8 r.t, .int .u8 r.tau, .int .u8 r.fa, .int .u8 r.op, .int .u8 r.pr] 23) (.cells #[.int .u8 r.cap, .int .u8 r.t, .int .u8 r.tau, .int .u8 r.fa, .int .u8 r.op, .int .u8 r.pr] 23))
  clear hT hTab hM hn
  go_enter Tryz.func3, Tryz.ntmps3
  go_wp2_with fail
  refine (MD.out).mono ?_
  rintro e_ w1 ⟨g, c', rfl, ho, hb⟩
  have O1 := Lib.hid ho
  have B1 := Lib.hid (B0.out.trans (hb.mono (by simp; omega)))
  clear ho hb MD B0
  go_upto_region 2 with fail
  obtain ⟨W2, hW2⟩ : ∃ W2, W2 = w1.alloc (.cells #[.int .i64 (1 + (most : Int) % 8), .int .i64 1, .int .i64 0, .int .i64 1, .int .u64 0, .int .i64 (smT lim), .int .i64 (smA lim tau), .slice (some ⟨g, 0, none⟩) 1 c'] 32) := ⟨_, rfl⟩
  have hb2 : Below w1.heap.size w1 W2 := by rw [hW2]; exact (Below.refl _ _).alloc (Nat.le_refl _) _
  have O2 := Lib.hid (own_below O1.out hb2)
  have C2 : Hid (Blk W2 w1.heap.size 32 #[.int .i64 (1 + (most : Int) % 8), .int .i64 1, .int .i64 0, .int .i64 1, .int .u64 0, .int .i64 (smT lim), .int .i64 (smA lim tau), .slice (some ⟨g, 0, none⟩) 1 c']) := Lib.hid (by rw [hW2]; exact Blk.new _ _ _)
  have B2 := Lib.hid (B1.out.trans (hb2.mono B1.out.size))
  have JC : Hid (∀ i, i < 30 → W2.cell? ⟨g, i, none⟩ = (jbV (jbR 0 r))[i]?) := Lib.hid (fun i hi => by
    have := OwnsC.cell (L := madeFrom 0 [r]) O2.out 0 i (show 0 < 1 from Nat.one_pos) hi
    rw [Nat.zero_mul, Nat.zero_add] at this
    exact this)
  rw [← hW2]
  generalize w1.heap.size = cb at *
  clear hW2 hb2 O1 B1
  have k7 : W2.cell? ⟨cb, 7, none⟩ = some (.slice (some ⟨g, 0, none⟩) 1 c') := C2.out.cell 7
  have y15 : W2.cell? ⟨g, 15, none⟩ = some (.int .i64 (polR r).cap) := JC.out 15 (by decide)
  have y16 : W2.cell? ⟨g, 16, none⟩ = some (.int .i64 (polR r).pri) := JC.out 16 (by decide)
  have y17 : W2.cell? ⟨g, 17, none⟩ = some (.int .i64 (polR r).spl) := JC.out 17 (by decide)
  have y18 : W2.cell? ⟨g, 18, none⟩ = some (.int .i64 (polR r).ddl) := JC.out 18 (by decide)
  have y19 : W2.cell? ⟨g, 19, none⟩ = some (.int .i64 (polR r).mis) := JC.out 19 (by decide)
  have y20 : W2.cell? ⟨g, 20, none⟩ = some (.int .i64 (polR r).keep) := JC.out 20 (by decide)
  have y21 : W2.cell? ⟨g, 21, none⟩ = some (.int .i64 (polR r).t) := JC.out 21 (by decide)
  have y22 : W2.cell? ⟨g, 22, none⟩ = some (.int .i64 (polR r).tau) := JC.out 22 (by decide)
  have y23 : W2.cell? ⟨g, 23, none⟩ = some (.int .i64 (polR r).f) := JC.out 23 (by decide)
  have y24 : W2.cell? ⟨g, 24, none⟩ = some (.int .i64 (polR r).o) := JC.out 24 (by decide)
  have y25 : W2.cell? ⟨g, 25, none⟩ = some (.int .i64 (polR r).r) := JC.out 25 (by decide)
  have y26 : W2.cell? ⟨g, 26, none⟩ = some (.int .i64 (polR r).m) := JC.out 26 (by decide)
  have y27 : W2.cell? ⟨g, 27, none⟩ = some (.int .i64 (polR r).b) := JC.out 27 (by decide)
  have y28 : W2.cell? ⟨g, 28, none⟩ = some (.int .i64 (polR r).c) := JC.out 28 (by decide)
  have y29 : W2.cell? ⟨g, 29, none⟩ = some (.int .i64 (polR r).j) := JC.out 29 (by decide)
  go_upto_region 3 with fail
  obtain ⟨W3, hW3⟩ : ∃ W3, W3 = W2.alloc (.cells #[.int .i64 (polR r).cap, .int .i64 (polR r).pri, .int .i64 (polR r).spl, .int .i64 (polR r).ddl, .int .i64 (polR r).mis, .int .i64 (polR r).keep, .int .i64 (polR r).t, .int .i64 (polR r).tau, .int .i64 (polR r).f, .int .i64 (polR r).o, .int .i64 (polR r).r, .int .i64 (polR r).m, .int .i64 (polR r).b, .int .i64 (polR r).c, .int .i64 (polR r).j] 47) := ⟨_, rfl⟩
  have hb3 : Below W2.heap.size W2 W3 := by rw [hW3]; exact (Below.refl _ _).alloc (Nat.le_refl _) _
  have O3 := Lib.hid (own_below O2.out hb3)
  have C3 := Lib.hid (C2.out.below hb3 C2.out.lt)
  have P3 : Hid (Blk W3 W2.heap.size 47 (poV (polR r))) := Lib.hid (by rw [hW3]; exact Blk.new _ _ _)
  have B3 := Lib.hid (B2.out.trans (hb3.mono B2.out.size))
  rw [← hW3]
  generalize W2.heap.size = pb at *
  clear hW3 hb3 O2 C2 B2 JC k7 y15 y16 y17 y18 y19 y20 y21 y22 y23 y24 y25 y26 y27 y28 y29
  have k0 : W3.cell? ⟨cb, 0, none⟩ = some (.int .i64 (1 + (most : Int) % 8)) := C3.out.cell 0
  have k1 : W3.cell? ⟨cb, 1, none⟩ = some (.int .i64 1) := C3.out.cell 1
  have k2 : W3.cell? ⟨cb, 2, none⟩ = some (.int .i64 0) := C3.out.cell 2
  have k3 : W3.cell? ⟨cb, 3, none⟩ = some (.int .i64 1) := C3.out.cell 3
  have k4 : W3.cell? ⟨cb, 4, none⟩ = some (.int .u64 0) := C3.out.cell 4
  have k5 : W3.cell? ⟨cb, 5, none⟩ = some (.int .i64 (smT lim)) := C3.out.cell 5
  have k6 : W3.cell? ⟨cb, 6, none⟩ = some (.int .i64 (smA lim tau)) := C3.out.cell 6
  have k7 : W3.cell? ⟨cb, 7, none⟩ = some (.slice (some ⟨g, 0, none⟩) 1 c') := C3.out.cell 7
  have GN := Lib.hid (gnew_yes ⟨madeG lim tau most, some ⟨g, 0, none⟩, 1, c'⟩ (madeFrom 0 [r]) W3 (made_arg O3.out rfl (by decide) (TT.out W3 B3.out).1 (TT.out W3 B3.out).2) (made_cfok [r] (show 1 ≤ 4 by decide) lim tau most))
  go_wp2_with fail
  refine (GN.out).mono ?_
  rintro e_ w4 ⟨Y, rfl, hg, hs, hb⟩
  have G4 := Lib.hid hg
  have S4 := Lib.hid hs
  have C4 := Lib.hid (C3.out.below hb C3.out.lt)
  have P4 := Lib.hid (P3.out.below hb P3.out.lt)
  have B4 := Lib.hid (B3.out.trans (hb.mono B3.out.size))
  have W34 := Lib.hid B4.out.size
  have W33 := Lib.hid B3.out.size
  clear hg hs hb GN O3 C3 P3 k0 k1 k2 k3 k4 k5 k6 k7
  have k5 : w4.cell? ⟨cb, 5, none⟩ = some (.int .i64 (smT lim)) := C4.out.cell 5
  have k6 : w4.cell? ⟨cb, 6, none⟩ = some (.int .i64 (smA lim tau)) := C4.out.cell 6
  go_wp2_with fail
  refine (lnew_ok sm_lim w4).mono ?_
  rintro e_ w5 ⟨al, rfl, ha, hb, ha1, ha2⟩
  have A5 := Lib.hid ha
  have C5 := Lib.hid (C4.out.below hb C4.out.lt)
  have P5 := Lib.hid (P4.out.below hb P4.out.lt)
  have G5 := Lib.hid (G4.out.below hb)
  have B5 := Lib.hid (B4.out.trans (hb.mono B4.out.size))
  have L5 := Lib.hid (And.intro ha1 ha2)
  have S5 := Lib.hid (fun i (hi : Y.sup _ i) => G4.out.lt hi)
  have hw45 := hb.size
  clear ha hb ha1 ha2 k5 k6 C4 P4 B4 G4
  have p6 : w5.cell? ⟨pb, 6, none⟩ = some (.int .i64 (smT r.t)) := P5.out.cell 6
  have p7 : w5.cell? ⟨pb, 7, none⟩ = some (.int .i64 (smA r.t r.tau)) := P5.out.cell 7
  go_wp2_with fail
  refine (lnew_ok sm_lim w5).mono ?_
  rintro e_ w6 ⟨ol, rfl, ha, hb, ha1, ha2⟩
  have A6 := Lib.hid (show LmAt w6 al _ from Blk.below A5.out hb (Blk.lt A5.out))
  have OL6 := Lib.hid ha
  have C6 := Lib.hid (C5.out.below hb C5.out.lt)
  have P6 := Lib.hid (P5.out.below hb P5.out.lt)
  have G6 := Lib.hid (G5.out.below hb)
  have B6 := Lib.hid (B5.out.trans (hb.mono B5.out.size))
  have L6 := Lib.hid (And.intro ha1 ha2)
  have hw56 := hb.size
  clear ha hb ha1 ha2 p6 p7 A5 C5 P5 G5 B5
  have p8 : w6.cell? ⟨pb, 8, none⟩ = some (.int .i64 (polR r).f) := P6.out.cell 8
  have p9 : w6.cell? ⟨pb, 9, none⟩ = some (.int .i64 (polR r).o) := P6.out.cell 9
  have p10 : w6.cell? ⟨pb, 10, none⟩ = some (.int .i64 (polR r).r) := P6.out.cell 10
  go_wp2_with fail
  refine (BK.new_yes (pol_brk r)).mono ?_
  rintro e_ w7 ⟨ob, rfl, ha, hb, ha1⟩
  have I7 : Hid (RsI w.heap.size w4.heap.size 1 w Y al ol ob cb pb ⟨madeG lim tau most, some ⟨g, 0, none⟩, 1, c'⟩ (polR r) (g0 (madeG lim tau most) (madeFrom 0 [r])) (lm0 (smT lim) (smA lim tau)) (lm0 (smT r.t) (smA r.t r.tau)) (BK.fresh (polR r).f (polR r).o (polR r).r) w7) := Lib.hid
    ⟨G6.out.below hb, rfl, Blk.below A6.out hb (Blk.lt A6.out), Blk.below OL6.out hb (Blk.lt OL6.out), ha, C6.out.below hb C6.out.lt, P6.out.below hb P6.out.lt, by have := L5.out; have := L6.out; omega, by have := L5.out; have := L6.out; have := W34.out; omega, fun i hi => S5.out i hi, fun i hi => Nat.le_trans W33.out (S4.out i (.inl hi)), B6.out.trans (hb.mono B6.out.size), Nat.le_refl _⟩
  clear ha hb ha1 p8 p9 p10 A6 OL6 C6 P6 G6 B6 L5 L6 S4 S5 hw45 hw56
  have c1e : Hid ((g0 (madeG lim tau most) (madeFrom 0 [r])).cap = 1 + (most : Int) % 8) := Lib.hid rfl
  have K7 : Hid (RsK (g0 (madeG lim tau most) (madeFrom 0 [r])) (lm0 (smT lim) (smA lim tau)) (lm0 (smT r.t) (smA r.t r.tau)) (BK.fresh (polR r).f (polR r).o (polR r).r) (1 + (r.cap : Int) % 4) 0 50) := Lib.hid ⟨rfl, rfl, (show (0 : Int) ≤ 50 by decide), (show (0 : Int) ≤ 50 by decide), (show (0 : Int) ≤ 50 by decide), (show (0 : Int) ≤ 50 by decide), by decide, by decide⟩
  obtain ⟨mm, HMM⟩ : ∃ mm, Hid (mm = min n 60) := ⟨_, Lib.hid rfl⟩
  have hm : min (n : Int) 60 = (mm : Int) := by have := HMM.out; omega
  have hmc : mm ≤ c := by have := HMM.out; omega
  have hmn : mm ≤ n := by have := HMM.out; omega
  have hm4 : mm ≤ 60 := by have := HMM.out; omega
  generalize g0 (madeG lim tau most) (madeFrom 0 [r]) = x0 at *
  generalize lm0 (smT lim) (smA lim tau) = m0 at *
  generalize lm0 (smT r.t) (smA r.t r.tau) = l0 at *
  generalize BK.fresh (polR r).f (polR r).o (polR r).r = bx0 at *
  go_wp2_with fail
  go_loopw [21, 22, 90] (fun s21 s22 s90 wr => ∃ k : Nat, k ≤ mm ∧ s90 = .int .i64 k ∧ ∃ (now runs : Int) (x : Gt) (m l : Lm) (bx : Bx), s21 = .int .i64 now ∧ s22 = .int .i64 runs ∧ RsI w.heap.size w4.heap.size 1 w Y al ol ob cb pb ⟨madeG lim tau most, some ⟨g, 0, none⟩, 1, c'⟩ (polR r) x m l bx wr ∧ RsK x m l bx (1 + (r.cap : Int) % 4) runs now ∧ x.cap = 1 + (most : Int) % 8 ∧ now ≤ 50 + 7 * (k : Int)) (fun _ _ s90 _ => mm - intA s90)
  case atStart => exact ⟨0, Nat.zero_le _, rfl, 50, 0, _, _, _, _, rfl, rfl, I7.out, K7.out, c1e.out, by decide⟩
  case round =>
    obtain ⟨k, hk, rfl, now, runs, x, m, l, bx, rfl, rfl, hI, hK, hc, hnow⟩ := hrel
    have HI := Lib.hid hI
    have HK := Lib.hid hK
    have HC := Lib.hid hc
    clear hI hc I7 K7 c1e hm
    rcases Nat.lt_or_ge k mm with hlt | hge
    · have hkl : k < ms.length := by rw [HN.out]; omega
      obtain ⟨b, off, rfl, hcl, hok⟩ := (HM.out.below HI.out.bel) k hkl
      obtain ⟨mv, hmv⟩ : ∃ mv, ms[k] = mv := ⟨_, rfl⟩
      rw [hmv] at hcl hok
      have c0 : wr.cell? ⟨b, off + k * 3, none⟩ = some (.int .u8 mv.ah) := hcl 0 (by decide)
      have c1 : wr.cell? ⟨b, off + k * 3 + 1, none⟩ = some (.int .u8 mv.job) := hcl 1 (by decide)
      have c2 : wr.cell? ⟨b, off + k * 3 + 2, none⟩ = some (.int .u8 mv.kind) := hcl 2 (by decide)
      obtain ⟨ho1, ho2, ho3⟩ := hok
      have hnow0 := hK.now
      have hruns := hK.runs
      clear hcl hmv hkl
      obtain ⟨t, HT⟩ : ∃ t : Int, Hid (now + (mv.ah : Int) % 8 = t) := ⟨_, Lib.hid rfl⟩
      have ht1 : now ≤ t := by have := HT.out; omega
      have ht2 : t ≤ 253402300799 := by have := HT.out; omega
      have ht3 : t ≤ 50 + 7 * ((k : Int) + 1) := by have := HT.out; omega
      obtain ⟨hi1, hi2, hi3, hi4⟩ := hK.invs HI.out.g.inv
      have HINV := Lib.hid (And.intro hi1 (And.intro hi2 (And.intro hi3 hi4)))
      clear hK hi1 hi2 hi3 hi4
      go_upto_region 13 with fail
      obtain ⟨X1, hX1⟩ : ∃ X1, X1 = wr.alloc (.cells #[.int .u8 mv.ah, .int .u8 mv.job, .int .u8 mv.kind] 61) := ⟨_, rfl⟩
      have hbX : Below wr.heap.size wr X1 := by rw [hX1]; exact (Below.refl _ _).alloc (Nat.le_refl _) _
      have MB : Hid (Blk X1 wr.heap.size 61 #[.int .u8 mv.ah, .int .u8 mv.job, .int .u8 mv.kind]) := Lib.hid (by rw [hX1]; exact Blk.new _ _ _)
      have I1 := Lib.hid (HI.out.below hbX)
      rw [← hX1]
      generalize wr.heap.size = mb at *
      clear hX1 hbX c0 c1 c2 HI
      have d0 : X1.cell? ⟨mb, 0, none⟩ = some (.int .u8 mv.ah) := MB.out.cell 0
      have d2 : X1.cell? ⟨mb, 2, none⟩ = some (.int .u8 mv.kind) := MB.out.cell 2
      have k0 : X1.cell? ⟨cb, 0, none⟩ = some (.int .i64 (1 + (most : Int) % 8)) := I1.out.c.cell 0
      have p0 : X1.cell? ⟨pb, 0, none⟩ = some (.int .i64 (1 + (r.cap : Int) % 4)) := I1.out.p.cell 0
      have hs := HT.out
      have hw1 : IntKind.i64.wrap (now + (mv.ah : Int) % 8) = t := by rw [IntWalk.i64_in _ (by omega)]; exact hs
      go_upto_region 14 with fail
      clear hs hw1
      have AA := Lib.hid (fun d => allows_ok (I1.out.drewN d).a HINV.out.1 t)
      have AO := Lib.hid (fun d => allows_ok (I1.out.drewN d).o HINV.out.2.1 t)
      have AB := Lib.hid (fun d => BK.allows_ok (I1.out.drewN d).b HINV.out.2.2.1 t)
      have HW : Hid (x.Why 0 t = (((partN (decide (1 + (most : Int) % 8 ≤ runs)) (!m.allows t) (decide (1 + (r.cap : Int) % 4 ≤ runs)) (!l.allows t) (!BK.allows bx t) 5 : Nat) : Int), 0)) := Lib.hid (by
        have := HK.out.Why ht1 ht2
        unfold wantB at this
        rw [HC.out] at this
        exact this)
      have HTK := HK.out.take ht1 ht2
      unfold wantB at HTK
      rw [HC.out] at HTK
      have HTK := Lib.hid HTK
      go_wp2_with fail
      go_quiet (first | (go_at_call 17; exact quietN (AA.out _)) | (go_at_call 17; exact quietN (AO.out _)) | (go_at_call 18; exact quietN (AB.out _)))
      obtain ⟨X2, hX2⟩ : ∃ X2, X2 = X1.drewN nq := ⟨_, rfl⟩
      have I2 : Hid (RsI w.heap.size w4.heap.size 1 w Y al ol ob cb pb ⟨madeG lim tau most, some ⟨g, 0, none⟩, 1, c'⟩ (polR r) x m l bx X2) := Lib.hid (by rw [hX2]; exact I1.out.drewN nq)
      have MB2 : Hid (Blk X2 mb 61 #[.int .u8 mv.ah, .int .u8 mv.job, .int .u8 mv.kind]) := Lib.hid (by rw [hX2]; exact MB.out.drewN nq)
      rw [← hX2]
      clear hX2 I1 MB d0 d2 k0 p0 AA AO AB
      generalize decide (1 + (most : Int) % 8 ≤ runs) = a5 at HW HTK ⊢
      generalize (!m.allows t) = b5 at HW HTK ⊢
      generalize decide (1 + (r.cap : Int) % 4 ≤ runs) = c5 at HW HTK ⊢
      generalize (!l.allows t) = d5 at HW HTK ⊢
      generalize (!BK.allows bx t) = e5 at HW HTK ⊢
      go_wp2_with fail
      go_loop [25, 122] (fun s25 s122 => ∃ i, i ≤ 5 ∧ s122 = nthI i ∧ s25 = .int .i64 ((partN a5 b5 c5 d5 e5 i : Nat) : Int)) (fun _ s122 => 5 - intA s122)
      case atStart => exact ⟨0, by decide, rfl, rfl⟩
      case round =>
        obtain ⟨i, hi, h122, h25⟩ := hrel
        obtain rfl | rfl | rfl | rfl | rfl | rfl : i = 0 ∨ i = 1 ∨ i = 2 ∨ i = 3 ∨ i = 4 ∨ i = 5 := by omega
        · have IX := (idx_b5 a5 b5 c5 d5 e5 X2).1
          replace h122 := h122.trans (show nthI 0 = .int .i64 0 from rfl)
          subst h122 h25
          have hP : partN a5 b5 c5 d5 e5 0 < 1 := by cases a5 <;> cases b5 <;> cases c5 <;> cases d5 <;> cases e5 <;> decide
          have HPT : Hid (partN a5 b5 c5 d5 e5 0 + 1 = partN a5 b5 c5 d5 e5 1 ∨ a5 = false) := Lib.hid (by cases a5 <;> cases b5 <;> cases c5 <;> cases d5 <;> cases e5 <;> decide)
          have HPF : Hid (partN a5 b5 c5 d5 e5 0 = partN a5 b5 c5 d5 e5 1 ∨ a5 = true) := Lib.hid (by cases a5 <;> cases b5 <;> cases c5 <;> cases d5 <;> cases e5 <;> decide)
          generalize partN a5 b5 c5 d5 e5 0 = Pn at *
          cases a5
          · go_wp2_with fail
            go_round
            case rel => exact ⟨1, by decide, rfl, pt_no HPF.out⟩
            case measure => simp [intA]
          · go_wp2_with fail
            go_round
            case rel => exact ⟨1, by decide, rfl, pt_yes HPT.out⟩
            case measure => simp [intA]
        · have IX := (idx_b5 a5 b5 c5 d5 e5 X2).2.1
          replace h122 := h122.trans (show nthI 1 = .int .i64 1 from rfl)
          subst h122 h25
          have hP : partN a5 b5 c5 d5 e5 1 < 2 := by cases a5 <;> cases b5 <;> cases c5 <;> cases d5 <;> cases e5 <;> decide
          have HPT : Hid (partN a5 b5 c5 d5 e5 1 + 2 = partN a5 b5 c5 d5 e5 2 ∨ b5 = false) := Lib.hid (by cases a5 <;> cases b5 <;> cases c5 <;> cases d5 <;> cases e5 <;> decide)
          have HPF : Hid (partN a5 b5 c5 d5 e5 1 = partN a5 b5 c5 d5 e5 2 ∨ b5 = true) := Lib.hid (by cases a5 <;> cases b5 <;> cases c5 <;> cases d5 <;> cases e5 <;> decide)
          generalize partN a5 b5 c5 d5 e5 1 = Pn at *
          cases b5
          · go_wp2_with fail
            go_round
            case rel => exact ⟨2, by decide, rfl, pt_no HPF.out⟩
            case measure => simp [intA]
          · go_wp2_with fail
            go_round
            case rel => exact ⟨2, by decide, rfl, pt_yes HPT.out⟩
            case measure => simp [intA]
        · have IX := (idx_b5 a5 b5 c5 d5 e5 X2).2.2.1
          replace h122 := h122.trans (show nthI 2 = .int .i64 2 from rfl)
          subst h122 h25
          have hP : partN a5 b5 c5 d5 e5 2 < 4 := by cases a5 <;> cases b5 <;> cases c5 <;> cases d5 <;> cases e5 <;> decide
          have HPT : Hid (partN a5 b5 c5 d5 e5 2 + 4 = partN a5 b5 c5 d5 e5 3 ∨ c5 = false) := Lib.hid (by cases a5 <;> cases b5 <;> cases c5 <;> cases d5 <;> cases e5 <;> decide)
          have HPF : Hid (partN a5 b5 c5 d5 e5 2 = partN a5 b5 c5 d5 e5 3 ∨ c5 = true) := Lib.hid (by cases a5 <;> cases b5 <;> cases c5 <;> cases d5 <;> cases e5 <;> decide)
          generalize partN a5 b5 c5 d5 e5 2 = Pn at *
          cases c5
          · go_wp2_with fail
            go_round
            case rel => exact ⟨3, by decide, rfl, pt_no HPF.out⟩
            case measure => simp [intA]
          · go_wp2_with fail
            go_round
            case rel => exact ⟨3, by decide, rfl, pt_yes HPT.out⟩
            case measure => simp [intA]
        · have IX := (idx_b5 a5 b5 c5 d5 e5 X2).2.2.2.1
          replace h122 := h122.trans (show nthI 3 = .int .i64 3 from rfl)
          subst h122 h25
          have hP : partN a5 b5 c5 d5 e5 3 < 8 := by cases a5 <;> cases b5 <;> cases c5 <;> cases d5 <;> cases e5 <;> decide
          have HPT : Hid (partN a5 b5 c5 d5 e5 3 + 8 = partN a5 b5 c5 d5 e5 4 ∨ d5 = false) := Lib.hid (by cases a5 <;> cases b5 <;> cases c5 <;> cases d5 <;> cases e5 <;> decide)
          have HPF : Hid (partN a5 b5 c5 d5 e5 3 = partN a5 b5 c5 d5 e5 4 ∨ d5 = true) := Lib.hid (by cases a5 <;> cases b5 <;> cases c5 <;> cases d5 <;> cases e5 <;> decide)
          generalize partN a5 b5 c5 d5 e5 3 = Pn at *
          cases d5
          · go_wp2_with fail
            go_round
            case rel => exact ⟨4, by decide, rfl, pt_no HPF.out⟩
            case measure => simp [intA]
          · go_wp2_with fail
            go_round
            case rel => exact ⟨4, by decide, rfl, pt_yes HPT.out⟩
            case measure => simp [intA]
        · have IX := (idx_b5 a5 b5 c5 d5 e5 X2).2.2.2.2
          replace h122 := h122.trans (show nthI 4 = .int .i64 4 from rfl)
          subst h122 h25
          have hP : partN a5 b5 c5 d5 e5 4 < 16 := by cases a5 <;> cases b5 <;> cases c5 <;> cases d5 <;> cases e5 <;> decide
          have HPT : Hid (partN a5 b5 c5 d5 e5 4 + 16 = partN a5 b5 c5 d5 e5 5 ∨ e5 = false) := Lib.hid (by cases a5 <;> cases b5 <;> cases c5 <;> cases d5 <;> cases e5 <;> decide)
          have HPF : Hid (partN a5 b5 c5 d5 e5 4 = partN a5 b5 c5 d5 e5 5 ∨ e5 = true) := Lib.hid (by cases a5 <;> cases b5 <;> cases c5 <;> cases d5 <;> cases e5 <;> decide)
          generalize partN a5 b5 c5 d5 e5 4 = Pn at *
          cases e5
          · go_wp2_with fail
            go_round
            case rel => exact ⟨5, by decide, rfl, pt_no HPF.out⟩
            case measure => simp [intA]
          · go_wp2_with fail
            go_round
            case rel => exact ⟨5, by decide, rfl, pt_yes HPT.out⟩
            case measure => simp [intA]
        · replace h122 := h122.trans (show nthI 5 = .int .i64 5 from rfl)
          subst h122 h25
          generalize partN a5 b5 c5 d5 e5 5 = P at HW HTK ⊢
          go_wp2_with fail
          refine (rs_why I2.out t HW.out).mono ?_
          rintro e_ X3 ⟨rfl, h, hb⟩
          have I3 := Lib.hid h
          have d2 : X3.cell? ⟨mb, 2, none⟩ = some (.int .u8 mv.kind) := (MB2.out.below hb MB2.out.lt).cell 2
          clear h hb I2 MB2
          by_cases h6 : mv.kind % 16 < 6
          · have q6 : decide ((mv.kind : Int) % 16 < 6) = true := by simp; omega
            by_cases hr0 : 0 < runs
            · obtain ⟨y', t1, t2, t3, t4⟩ := HK.out.give (decide ((mv.kind : Int) % 16 < 3)) ht1 ht2 hr0
              have H1 := Lib.hid t1
              have H2 := Lib.hid t2
              have H3 := Lib.hid (And.intro t3 t4)
              clear t1 t2 t3 t4 HTK HW
              go_wp2_with fail
              refine (rs_give I3.out _ t H1.out).mono ?_
              rintro e_ X4 ⟨rfl, h⟩
              have I4 := Lib.hid h
              clear h
              go_wp2_with fail
              refine (rs_report I4.out HINV.out.2.2.1 _ t H3.out.1).mono ?_
              rintro e_ X5 ⟨rfl, h⟩
              have I5 := Lib.hid h
              clear h
              go_wp2_with fail
              refine ⟨⟨k + 1, by omega, by go_num, t, runs - 1, y', m, l, _, rfl, rfl, I5.out, H2.out, H3.out.2.trans HC.out, by omega⟩, ?_⟩
              simp [intA]; omega
            · by_cases hP0 : P = 0
              · obtain ⟨y', t1, t2, t3, t4, t5, t6⟩ := HTK.out.2 (by omega) HINV.out.2.2.2
                have H1 := Lib.hid t1
                have H2 := Lib.hid t2
                have H3 := Lib.hid (And.intro t3 (And.intro t4 (And.intro t5 t6)))
                subst hP0
                clear t1 t2 t3 t4 t5 t6 HTK HW
                go_wp2_with fail
                refine (rs_take I3.out t H1.out).mono ?_
                rintro e_ X4 ⟨rfl, h⟩
                have I4 := Lib.hid h
                clear h
                go_wp2_with fail
                refine (rs_takeA I4.out HINV.out.1 t H3.out.1).mono ?_
                rintro e_ X5 ⟨rfl, h⟩
                have I5 := Lib.hid h
                clear h
                go_wp2_with fail
                refine (rs_takeO I5.out HINV.out.2.1 t H3.out.2.1).mono ?_
                rintro e_ X6 ⟨rfl, h⟩
                have I6 := Lib.hid h
                clear h
                go_wp2_with fail
                refine (rs_takeB I6.out HINV.out.2.2.1 t H3.out.2.2.1).mono ?_
                rintro e_ X7 ⟨rfl, h⟩
                have I7 := Lib.hid h
                clear h
                go_wp2_with fail
                refine ⟨⟨k + 1, by omega, by go_num, t, runs + 1, y', _, _, _, rfl, rfl, I7.out, H2.out, H3.out.2.2.2, by omega⟩, ?_⟩
                simp [intA]; omega
              · have H1 := Lib.hid (HTK.out.1 (by omega))
                have q1 : ((P : Int) == 0) = false := by rw [beq_eq_false_iff_ne]; omega
                have q2 : ((P : Int) != 0) = true := by rw [bne, q1]; rfl
                clear HTK HW
                go_wp2_with fail
                refine (rs_take I3.out t H1.out).mono ?_
                rintro e_ X4 ⟨rfl, h⟩
                have I4 := Lib.hid h
                clear h
                go_wp2_with fail
                refine ⟨⟨k + 1, by omega, by go_num, t, runs, x, m, l, bx, rfl, rfl, I4.out, HK.out.later ht1, HC.out, by omega⟩, ?_⟩
                simp [intA]; omega
          · have q6 : decide ((mv.kind : Int) % 16 < 6) = false := by simp; omega
            by_cases hP0 : P = 0
            · obtain ⟨y', t1, t2, t3, t4, t5, t6⟩ := HTK.out.2 (by omega) HINV.out.2.2.2
              have H1 := Lib.hid t1
              have H2 := Lib.hid t2
              have H3 := Lib.hid (And.intro t3 (And.intro t4 (And.intro t5 t6)))
              subst hP0
              clear t1 t2 t3 t4 t5 t6 HTK HW
              go_wp2_with fail
              refine (rs_take I3.out t H1.out).mono ?_
              rintro e_ X4 ⟨rfl, h⟩
              have I4 := Lib.hid h
              clear h
              go_wp2_with fail
              refine (rs_takeA I4.out HINV.out.1 t H3.out.1).mono ?_
              rintro e_ X5 ⟨rfl, h⟩
              have I5 := Lib.hid h
              clear h
              go_wp2_with fail
              refine (rs_takeO I5.out HINV.out.2.1 t H3.out.2.1).mono ?_
              rintro e_ X6 ⟨rfl, h⟩
              have I6 := Lib.hid h
              clear h
              go_wp2_with fail
              refine (rs_takeB I6.out HINV.out.2.2.1 t H3.out.2.2.1).mono ?_
              rintro e_ X7 ⟨rfl, h⟩
              have I7 := Lib.hid h
              clear h
              go_wp2_with fail
              refine ⟨⟨k + 1, by omega, by go_num, t, runs + 1, y', _, _, _, rfl, rfl, I7.out, H2.out, H3.out.2.2.2, by omega⟩, ?_⟩
              simp [intA]; omega
            · have H1 := Lib.hid (HTK.out.1 (by omega))
              have q1 : ((P : Int) == 0) = false := by rw [beq_eq_false_iff_ne]; omega
              have q2 : ((P : Int) != 0) = true := by rw [bne, q1]; rfl
              clear HTK HW
              go_wp2_with fail
              refine (rs_take I3.out t H1.out).mono ?_
              rintro e_ X4 ⟨rfl, h⟩
              have I4 := Lib.hid h
              clear h
              go_wp2_with fail
              refine ⟨⟨k + 1, by omega, by go_num, t, runs, x, m, l, bx, rfl, rfl, I4.out, HK.out.later ht1, HC.out, by omega⟩, ?_⟩
              simp [intA]; omega
    · obtain rfl : mm = k := by omega
      go_wp2_with fail
      refine (aworks_ok wr (TT.out wr HI.out.bel).1 (TT.out wr HI.out.bel).2).mono ?_
      rintro e_ X2 ⟨rfl, hb⟩
      have HB2 := Lib.hid (HI.out.bel.trans (hb.mono HI.out.bel.size))
      clear hb
      go_wp2_with fail
      go_ret
      exact ⟨rfl, HB2.out⟩
end Go.Proofs.YtmbnmfcjbbfkoaaGreatDoor.AD
