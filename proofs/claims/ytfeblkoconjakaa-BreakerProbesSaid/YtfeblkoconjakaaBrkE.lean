/- A box of the call's own, with what the calls on it keep; the law's examples ('works'). -/
import Derived.Test.YtfeblkoconjakaaBrkD
namespace Go.Proofs.Ytfeblkoconjakaa.BK
open Go Go.RowKit

/-- Block b is the box x; below block B the world is as w0 was. -/
structure Has (B : Nat) (w0 w : World) (b : Nat) (x : Bx) : Prop where
  box : BoxAt w b x
  inv : Inv x
  bel : Below B w0 w
  le : B ≤ b
  size : B ≤ w0.heap.size
section
variable {B : Nat} {w0 w w' : World} {b c : Nat} {x y : Bx}
theorem Has.step (H : Has B w0 w b x) (hb : BoxAt w' b y) (hi : Inv y) (hg : w.grownBy w' (some b)) : Has B w0 w' b y :=
  ⟨hb, hi, H.bel.trans (below_only hg (Nat.le_trans H.size H.bel.size) H.le), H.le, H.size⟩
theorem Has.drewN (H : Has B w0 w b x) (n : Nat) : Has B w0 (w.drewN n) b x := ⟨H.box.drewN n, H.inv, below_drewN H.bel n, H.le, H.size⟩
theorem Has.drew (H : Has B w0 w b x) : Has B w0 w.drew b x := ⟨H.box.drew, H.inv, H.bel.drew, H.le, H.size⟩
theorem Has.keep (H : Has B w0 w b x) (hg : w.grownBy w' (some c)) (hne : b ≠ c) (hc : B ≤ c) : Has B w0 w' b x :=
  ⟨Blk.grown H.box hg (fun e => hne (by injection e)), H.inv, H.bel.trans (below_only hg (Nat.le_trans H.size H.bel.size) hc), H.le, H.size⟩
theorem Has.below (H : Has B w0 w b x) (hb : Below w.heap.size w w') : Has B w0 w' b x :=
  ⟨Blk.below H.box hb (Blk.lt H.box), H.inv, H.bel.trans (hb.mono (Nat.le_trans H.size H.bel.size)), H.le, H.size⟩
theorem Has.alloc (H : Has B w0 w b x) (o : Obj) : Has B w0 (w.alloc o) b x := H.below ((Below.refl _ _).alloc (Nat.le_refl _) o)

theorem has_report (H : Has B w0 w b x) (ok : Bool) (now : Int) {ev er : Int} (he : report x ok now = (ev, er, y)) :
    Calls Try.prog 13 #[.pointer (some ⟨b, 0, none⟩), .bool ok, .int .i64 now] w fun e w' => e = .returned (.tuple #[.int .i64 ev, .int .i64 er]) ∧ Has B w0 w' b y ∧ w.grownBy w' (some b) := by
  refine (report_ok H.box H.inv ok now).mono fun e w' ⟨h1, h2, h3⟩ => ?_
  have hi := inv_report (ok := ok) (now := now) H.inv
  rw [he] at h1 h2 hi
  exact ⟨h1, H.step h2 hi h3, h3⟩
theorem has_take (H : Has B w0 w b x) (now : Int) {er : Int} (he : take x now = (er, y)) :
    Calls Try.prog 20 #[.pointer (some ⟨b, 0, none⟩), .int .i64 now] w fun e w' => e = .returned (.int .i64 er) ∧ Has B w0 w' b y ∧ w.grownBy w' (some b) := by
  refine (take_ok H.box H.inv now).mono fun e w' ⟨h1, h2, h3⟩ => ?_
  have hi := inv_take (now := now) H.inv
  rw [he] at h1 h2 hi
  exact ⟨h1, H.step h2 hi h3, h3⟩
theorem has_trip (H : Has B w0 w b x) (now : Int) {er : Int} (he : trip x now = (er, y)) :
    Calls Try.prog 19 #[.pointer (some ⟨b, 0, none⟩), .int .i64 now] w fun e w' => e = .returned (.int .i64 er) ∧ Has B w0 w' b y ∧ w.grownBy w' (some b) := by
  refine (trip_ok H.box H.inv now).mono fun e w' ⟨h1, h2, h3⟩ => ?_
  have hi := inv_trip (now := now) H.inv
  rw [he] at h1 h2 hi
  exact ⟨h1, H.step h2 hi h3, h3⟩
theorem has_reset (H : Has B w0 w b x) (now : Int) {er : Int} (he : reset x now = (er, y)) :
    Calls Try.prog 15 #[.pointer (some ⟨b, 0, none⟩), .int .i64 now] w fun e w' => e = .returned (.int .i64 er) ∧ Has B w0 w' b y ∧ w.grownBy w' (some b) := by
  refine (reset_ok H.box now).mono fun e w' ⟨h1, h2, h3⟩ => ?_
  have hi := inv_reset (now := now) H.inv
  rw [he] at h1 h2 hi
  exact ⟨h1, H.step h2 hi h3, h3⟩
theorem has_state (H : Has B w0 w b x) (now : Int) {s : Int} (he : state x now = s) :
    Calls Try.prog 16 #[.pointer (some ⟨b, 0, none⟩), .int .i64 now] w fun e w' => e = .returned (.int .i64 s) ∧ w = w' := by
  subst he; exact state_ok H.box now
theorem has_until (H : Has B w0 w b x) {u : Int} {o : Bool} (hu : untilOf x = u) (ho : x.op = o) :
    Calls Try.prog 14 #[.pointer (some ⟨b, 0, none⟩)] w fun e w' => e = .returned (.tuple #[.int .i64 u, .bool o]) ∧ w = w' := by
  subst hu ho; exact until_ok H.box
theorem has_counts (H : Has B w0 w b x) {f g u : Int} (hf : x.fails = f) (hg : x.good = g) (hu : x.under = u) :
    Calls Try.prog 17 #[.pointer (some ⟨b, 0, none⟩)] w fun e w' => e = .returned (.tuple #[.int .i64 f, .int .i64 g, .int .i64 u]) ∧ Has B w0 w' b x ∧ Below w.heap.size w w' := by
  subst hf hg hu
  exact (counts_ok H.box).mono fun e w' ⟨h1, n, h2⟩ => ⟨h1, h2 ▸ H.drewN n, h2 ▸ below_drewN (Below.refl _ _) n⟩
theorem has_allows (H : Has B w0 w b x) (now : Int) {a : Bool} (he : allows x now = a) :
    Calls Try.prog 18 #[.pointer (some ⟨b, 0, none⟩), .int .i64 now] w fun e w' => e = .returned (.bool a) ∧ Has B w0 w' b x ∧ Below w.heap.size w w' := by
  subst he
  exact (allows_ok H.box H.inv now).mono fun e w' ⟨h1, n, h2⟩ => ⟨h1, h2 ▸ H.drewN n, h2 ▸ below_drewN (Below.refl _ _) n⟩
theorem has_copy (H : Has B w0 w b x) :
    Calls Try.prog 28 #[.pointer (some ⟨b, 0, none⟩)] w fun e w' => ∃ c, e = .returned (.pointer (some ⟨c, 0, none⟩)) ∧ (b < c ∧ w.heap.size ≤ c) ∧ Has B w0 w' b x ∧ Has B w0 w' c x ∧ Below w.heap.size w w' := by
  refine (copy_ok H.box).mono fun e w' ⟨h1, h2, h3, h4⟩ => ⟨_, h1, ⟨Blk.lt H.box, Nat.le_refl _⟩, H.below h3, ?_, h3⟩
  have h5 := H.below h3
  exact ⟨h2, H.inv, h5.bel, Nat.le_trans H.size H.bel.size, H.size⟩
end
theorem has_new {B : Nat} {w0 w : World} (hb : Below B w0 w) (hB : B ≤ w0.heap.size) {f o p : Int} (h : zero f o p = true ∨ ruled f o p = true) :
    Calls Try.prog 11 #[.agg #[.int .i64 f, .int .i64 o, .int .i64 p]] w fun e w' => ∃ n, e = .returned (.tuple #[.pointer (some ⟨n, 0, none⟩), .int .i64 0]) ∧ w.heap.size ≤ n ∧ Has B w0 w' n (fresh f o p) ∧ Below w.heap.size w w' := by
  refine (new_yes h).mono fun e w' ⟨n, h1, h2, h3, h4⟩ => ⟨n, h1, h4, ⟨h2, inv_fresh h, hb.trans (h3.mono (Nat.le_trans hB hb.size)), Nat.le_trans (Nat.le_trans hB hb.size) h4, hB⟩, h3⟩

set_option maxHeartbeats 4000000 in
set_option maxRecDepth 100000 in
theorem works_ok (w : World) : Calls Try.prog 12 #[] w fun e w' => e = .returned (.bool true) ∧ Below w.heap.size w w' := by
  go_enter Try.func12, Try.ntmps12
  go_wp2_with fail
  refine two_ok.mono ?_
  rintro e w1 ⟨rfl, hb⟩
  have HB := Lib.hid hb
  clear hb
  go_wp2_with fail
  refine (has_new HB.out (Nat.le_refl _) (f := 2) (o := 10) (p := 2) (.inr (by decide))).mono ?_
  rintro e w2 ⟨b, rfl, hn, h, -⟩
  have H := Lib.hid h
  clear h HB hn
  go_wp2_with fail
  refine (has_report H.out false 5 (y := ⟨2, 10, 2, false, 0, 1, 0, 0, 5⟩) (ev := 0) (er := 0) rfl).mono ?_
  rintro e w3 ⟨rfl, h, -⟩
  have H := Lib.hid h
  clear h
  go_wp2_with fail
  refine (has_report H.out false 8 (y := ⟨2, 10, 2, true, 18, 0, 0, 0, 8⟩) (ev := 7) (er := 0) rfl).mono ?_
  rintro e w4 ⟨rfl, h, -⟩
  have H := Lib.hid h
  clear h
  go_wp2_with fail
  refine (has_until H.out (u := 18) (o := true) rfl rfl).mono ?_
  rintro e w' ⟨rfl, rfl⟩
  go_wp2_with fail
  refine (has_state H.out 17 (s := 1) rfl).mono ?_
  rintro e w' ⟨rfl, rfl⟩
  go_wp2_with fail
  refine (has_state H.out 18 (s := 2) rfl).mono ?_
  rintro e w' ⟨rfl, rfl⟩
  go_wp2_with fail
  refine (has_take H.out 17 (er := 9) (y := ⟨2, 10, 2, true, 18, 0, 0, 0, 8⟩) rfl).mono ?_
  rintro e w5 ⟨rfl, h, -⟩
  have H := Lib.hid h
  clear h
  go_wp2_with fail
  refine (has_take H.out 18 (er := 0) (y := ⟨2, 10, 2, true, 18, 0, 0, 1, 18⟩) rfl).mono ?_
  rintro e w6 ⟨rfl, h, -⟩
  have H := Lib.hid h
  clear h
  go_wp2_with fail
  refine (has_take H.out 18 (er := 0) (y := ⟨2, 10, 2, true, 18, 0, 0, 2, 18⟩) rfl).mono ?_
  rintro e w7 ⟨rfl, h, -⟩
  have H := Lib.hid h
  clear h
  go_wp2_with fail
  refine (has_take H.out 18 (er := 9) (y := ⟨2, 10, 2, true, 18, 0, 0, 2, 18⟩) rfl).mono ?_
  rintro e w8 ⟨rfl, h, -⟩
  have H := Lib.hid h
  clear h
  go_wp2_with fail
  refine (has_report H.out true 19 (y := ⟨2, 10, 2, true, 18, 0, 1, 1, 19⟩) (ev := 0) (er := 0) rfl).mono ?_
  rintro e w9 ⟨rfl, h, -⟩
  have H := Lib.hid h
  clear h
  go_wp2_with fail
  refine (has_report H.out true 20 (y := ⟨2, 10, 2, false, 0, 0, 0, 0, 20⟩) (ev := 8) (er := 0) rfl).mono ?_
  rintro e w10 ⟨rfl, h, -⟩
  have H := Lib.hid h
  clear h
  go_wp2_with fail
  refine (has_state H.out 20 (s := 0) rfl).mono ?_
  rintro e w' ⟨rfl, rfl⟩
  go_wp2_with fail
  refine (has_allows H.out 20 (a := true) rfl).mono ?_
  rintro e w11 ⟨rfl, h, -⟩
  have H := Lib.hid h
  clear h
  go_wp2_with fail
  refine (has_take H.out 19 (er := 8) (y := ⟨2, 10, 2, false, 0, 0, 0, 0, 20⟩) rfl).mono ?_
  rintro e w12 ⟨rfl, h, -⟩
  have H := Lib.hid h
  clear h
  go_wp2_with fail
  go_ret
  exact ⟨rfl, H.out.bel⟩
end Go.Proofs.Ytfeblkoconjakaa.BK
