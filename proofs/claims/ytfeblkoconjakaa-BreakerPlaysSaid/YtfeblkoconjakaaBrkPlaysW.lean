/- The walk of BreakerPlays. -/
import Derived.Test.YtfeblkoconjakaaBrkRNil
import Derived.Deep.RegionHeld3
namespace Go.Proofs.Ytfeblkoconjakaa.BK
open Go Go.RowKit

theorem quiet_left {P : Program} {f : FuncId} {args : Array Value} {w : World} {n : Nat} {v : Value}
    (h : Calls P f args (w.drewN n) fun e w' => e = .returned v ∧ w.drewN n = w') : Calls P f args (w.drewN n) fun e w'' => e = .returned v ∧ ∃ m, w'' = w.drewN m :=
  h.mono fun _ _ ⟨he, hm⟩ => ⟨he, n, hm.symm⟩
/-- A box and the reference's one, both in the same state. -/
structure Two (B : Nat) (w0 w : World) (b c : Nat) (x y : Bx) : Prop where
  box : BoxAt w b x
  ref : RBoxAt w c y
  inv : Inv x
  rinv : Inv y
  ne : b ≠ c
  leb : B ≤ b
  lec : B ≤ c
  bel : Below B w0 w
  size : B ≤ w0.heap.size
section
variable {B : Nat} {w0 w w' : World} {b c : Nat} {x y z : Bx}
theorem Two.stepB (H : Two B w0 w b c x y) (hb : BoxAt w' b z) (hi : Inv z) (hg : w.grownBy w' (some b)) : Two B w0 w' b c z y :=
  ⟨hb, Blk.grown H.ref hg (fun e => H.ne (by injection e with e; exact e.symm)), hi, H.rinv, H.ne, H.leb, H.lec, H.bel.trans (below_only hg (Nat.le_trans H.size H.bel.size) H.leb), H.size⟩
theorem Two.stepC (H : Two B w0 w b c x y) (hb : RBoxAt w' c z) (hi : Inv z) (hg : w.grownBy w' (some c)) : Two B w0 w' b c x z :=
  ⟨Blk.grown H.box hg (fun e => H.ne (by injection e)), hb, H.inv, hi, H.ne, H.leb, H.lec, H.bel.trans (below_only hg (Nat.le_trans H.size H.bel.size) H.lec), H.size⟩
theorem Two.below (H : Two B w0 w b c x y) (hb : Below w.heap.size w w') : Two B w0 w' b c x y :=
  ⟨Blk.below H.box hb (Blk.lt H.box), Blk.below H.ref hb (Blk.lt H.ref), H.inv, H.rinv, H.ne, H.leb, H.lec, H.bel.trans (hb.mono (Nat.le_trans H.size H.bel.size)), H.size⟩
theorem Two.drew (H : Two B w0 w b c x y) : Two B w0 w.drew b c x y := H.below ((Below.refl _ _).drew)
end
set_option maxHeartbeats 4000000 in
theorem shows_ok {w : World} {b c : Nat} {x : Bx} (h1 : BoxAt w b x) (h2 : RBoxAt w c x) (hi : Inv x) (now : Int) :
    Calls Try.prog 30 #[.pointer (some ⟨b, 0, none⟩), .pointer (some ⟨c, 0, none⟩), .int .i64 now] w fun e w' => e = .returned (.bool true) ∧ Below w.heap.size w w' := by
  have H1 := Lib.hid h1
  have H2 := Lib.hid h2
  have HI := Lib.hid hi
  have hs := hi.small
  have hu : 0 ≤ untilOf x ∧ untilOf x ≤ 322121777535 := by unfold untilOf; split <;> omega
  obtain ⟨u, hu'⟩ : ∃ u, untilOf x = u := ⟨_, rfl⟩
  obtain ⟨o, ho⟩ : ∃ o, x.op = o := ⟨_, rfl⟩
  rw [hu'] at hu
  have C1 := fun n => until_ok (Blk.drewN h1 n)
  have C2 := fun n => runtil_ok (Blk.drewN h2 n)
  rw [hu', ho] at C1 C2
  have HC1 := Lib.hid C1
  have HC2 := Lib.hid C2
  obtain ⟨u0, u1⟩ := hu
  clear C1 C2 hu' ho h1 h2 hi hs
  go_enter Try.func30, Try.ntmps30
  go_wp2_with fail
  have C := counts_ok H1.out
  (with_reducible refine C.mono ?_)
  rintro e w1 ⟨rfl, n, rfl⟩
  clear C
  go_wp2_with fail
  have C := rcounts_ok (Blk.drewN H2.out n)
  (with_reducible refine C.mono ?_)
  rintro e w1 ⟨rfl, n2, rfl⟩
  clear C
  go_wp2_with fail
  with_reducible refine (HC1.out _).mono ?_
  rintro e w' ⟨rfl, rfl⟩
  go_wp2_with fail
  with_reducible refine (HC2.out _).mono ?_
  rintro e w' ⟨rfl, rfl⟩
  cases o
  all_goals
    go_wp2_with fail
    obtain ⟨W, hW⟩ : ∃ W : World, Hid (W = (w.drewN (n + n2)).alloc (.cells #[.int .i64 now, .int .i64 (u - 1), .int .i64 u, .int .i64 0, .int .i64 253402300799] 2)) := ⟨_, Lib.hid rfl⟩
    have HB : Hid (Below w.heap.size w W) := Lib.hid (by rw [hW.out]; exact (below_drewN (Below.refl _ _) _).alloc (by simp) _)
    have HV : Hid (∀ k : Nat, k < 5 → ∃ v : Int, W.cell? ⟨w.heap.size, k, none⟩ = some (.int .i64 v)) := Lib.hid (by
      intro k hk
      rw [hW.out]
      have hb : Blk ((w.drewN (n + n2)).alloc (.cells #[.int .i64 now, .int .i64 (u - 1), .int .i64 u, .int .i64 0, .int .i64 253402300799] 2)) w.heap.size 2 #[.int .i64 now, .int .i64 (u - 1), .int .i64 u, .int .i64 0, .int .i64 253402300799] := Blk.newAt (by simp)
      rcases (show k = 0 ∨ k = 1 ∨ k = 2 ∨ k = 3 ∨ k = 4 by omega) with rfl | rfl | rfl | rfl | rfl
      · exact ⟨_, hb.cell 0⟩
      · exact ⟨_, hb.cell 1⟩
      · exact ⟨_, hb.cell 2⟩
      · exact ⟨_, hb.cell 3⟩
      · exact ⟨_, hb.cell 4⟩)
    have G1 : Hid (BoxAt W b x) := Lib.hid (Blk.below H1.out HB.out (Blk.lt H1.out))
    have G2 : Hid (RBoxAt W c x) := Lib.hid (Blk.below H2.out HB.out (Blk.lt H2.out))
    rw [← hW.out]
    go_loopw [18] (fun iv wr => ∃ k m : Nat, iv = .int .i64 k ∧ k ≤ 5 ∧ wr = W.drewN m) (fun i _ => 5 - (intOf i).toNat)
    case atStart => exact ⟨0, 0, rfl, by omega, rfl⟩
    case round =>
      obtain ⟨k, m, rfl, hk, hm⟩ := hrel
      have G1 : Hid (BoxAt wr b x) := Lib.hid (by rw [hm]; exact Blk.drewN G1.out m)
      have G2 : Hid (RBoxAt wr c x) := Lib.hid (by rw [hm]; exact Blk.drewN G2.out m)
      by_cases hlt : k < 5
      · obtain ⟨v, hv⟩ := HV.out k hlt
        have hv' : wr.cell? ⟨w.heap.size, k, none⟩ = some (.int .i64 v) := by rw [hm]; exact hv
        have A1 := fun n => state_ok (Blk.drewN G1.out n) v
        have A2 := fun n => rstate_ok (Blk.drewN G2.out n) v
        have A3 := fun n => allows_ok (Blk.drewN G1.out n) HI.out v
        have A4 := fun n => rallows_ok (Blk.drewN G2.out n) HI.out v
        generalize state x v = sv at *
        generalize allows x v = av at *
        have HM := Lib.hid hm
        have A1' := Lib.hid A1
        have A2' := Lib.hid A2
        have A3' := Lib.hid A3
        have A4' := Lib.hid A4
        clear A1 A2 A3 A4 hm hv
        have hk0 : (0 : Int) ≤ (k : Int) := by omega
        have hk5 : (k : Int) < 5 := by omega
        go_wp2_with fail
        go_quiet ((first | (go_at_call 16; exact quiet_left (A1'.out _)) | (go_at_call 45; exact quiet_left (A2'.out _)) | (go_at_call 18; exact Calls.quiet_of (A3'.out _)) | (go_at_call 44; exact Calls.quiet_of (A4'.out _))))
        go_wp2_with fail
        go_roundw
        case rel => exact ⟨k + 1, _, by go_num, by omega, by rw [HM.out, World.drewN_drewN]⟩
        case measure => simp [intOf]; omega
      · obtain rfl : k = 5 := by omega
        have HM := Lib.hid hm
        clear hm
        go_wp2_with fail
        go_ret
        exact ⟨rfl, by rw [HM.out]; exact below_drewN HB.out m⟩

set_option maxHeartbeats 4000000 in
theorem shows_nil (now : Int) (w : World) :
    Calls Try.prog 30 #[.pointer none, .pointer none, .int .i64 now] w fun e w' => e = .returned (.bool true) ∧ Below w.heap.size w w' := by
  go_enter Try.func30, Try.ntmps30
  go_wp2_with fail
  have C := (fun W => bad_counts (w := W) (.inl rfl))
  (with_reducible refine (C _).mono ?_)
  rintro e w1 ⟨rfl, rfl⟩
  clear C
  go_wp2_with fail
  have C := (fun W => rn_counts (w := W))
  (with_reducible refine (C _).mono ?_)
  rintro e w1 ⟨rfl, rfl⟩
  clear C
  go_wp2_with fail
  have C := (fun W => bad_until (w := W) (.inl rfl))
  (with_reducible refine (C _).mono ?_)
  rintro e w1 ⟨rfl, rfl⟩
  clear C
  go_wp2_with fail
  have C := (fun W => rn_until (w := W))
  (with_reducible refine (C _).mono ?_)
  rintro e w1 ⟨rfl, rfl⟩
  clear C
  go_wp2_with fail
  obtain ⟨W, hW⟩ : ∃ W : World, Hid (W = w.alloc (.cells #[.int .i64 now, .int .i64 (-1), .int .i64 0, .int .i64 0, .int .i64 253402300799] 2)) := ⟨_, Lib.hid rfl⟩
  have HB : Hid (Below w.heap.size w W) := Lib.hid (by rw [hW.out]; exact (Below.refl _ _).alloc (Nat.le_refl _) _)
  have HV : Hid (∀ k : Nat, k < 5 → ∃ v : Int, W.cell? ⟨w.heap.size, k, none⟩ = some (.int .i64 v)) := Lib.hid (by
    intro k hk
    rw [hW.out]
    have hb : Blk (w.alloc (.cells #[.int .i64 now, .int .i64 (-1), .int .i64 0, .int .i64 0, .int .i64 253402300799] 2)) w.heap.size 2 #[.int .i64 now, .int .i64 (-1), .int .i64 0, .int .i64 0, .int .i64 253402300799] := Blk.newAt rfl
    rcases (show k = 0 ∨ k = 1 ∨ k = 2 ∨ k = 3 ∨ k = 4 by omega) with rfl | rfl | rfl | rfl | rfl
    · exact ⟨_, hb.cell 0⟩
    · exact ⟨_, hb.cell 1⟩
    · exact ⟨_, hb.cell 2⟩
    · exact ⟨_, hb.cell 3⟩
    · exact ⟨_, hb.cell 4⟩)
  rw [← hW.out]
  go_loopw [18] (fun iv wr => ∃ k m : Nat, iv = .int .i64 k ∧ k ≤ 5 ∧ wr = W.drewN m) (fun i _ => 5 - (intOf i).toNat)
  case atStart => exact ⟨0, 0, rfl, by omega, rfl⟩
  case round =>
    obtain ⟨k, m, rfl, hk, hm⟩ := hrel
    by_cases hlt : k < 5
    · obtain ⟨v, hv⟩ := HV.out k hlt
      have hv' : wr.cell? ⟨w.heap.size, k, none⟩ = some (.int .i64 v) := by rw [hm]; exact hv
      have HM := Lib.hid hm
      clear hm hv
      have hk0 : (0 : Int) ≤ (k : Int) := by omega
      have hk5 : (k : Int) < 5 := by omega
      go_wp2_with fail
      go_quiet ((first | (go_at_call 16; exact quiet_left (bad_state (.inl rfl) _)) | (go_at_call 45; exact quiet_left (rn_state _)) | (go_at_call 18; exact quiet_left (bad_allows (.inl rfl) _)) | (go_at_call 44; exact quiet_left (rn_allows _))))
      go_wp2_with fail
      go_roundw
      case rel => exact ⟨k + 1, _, by go_num, by omega, by rw [HM.out, World.drewN_drewN]⟩
      case measure => simp [intOf]; omega
    · obtain rfl : k = 5 := by omega
      have HM := Lib.hid hm
      clear hm
      go_wp2_with fail
      go_ret
      exact ⟨rfl, by rw [HM.out]; exact below_drewN HB.out m⟩
theorem ptake_ok {w : World} {b : Nat} {x : Bx} (h : BoxAt w b x) (hi : Inv x) (now : Int) :
    Calls Try.prog 20 #[.pointer (some ⟨b, 0, none⟩), .int .i64 now] w fun e w' => e = .returned (.int .i64 (take x now).1) ∧ BoxAt w' b (take x now).2 ∧ w.grownBy w' (some b) := take_ok h hi now
theorem ptrip_ok {w : World} {b : Nat} {x : Bx} (h : BoxAt w b x) (hi : Inv x) (now : Int) :
    Calls Try.prog 19 #[.pointer (some ⟨b, 0, none⟩), .int .i64 now] w fun e w' => e = .returned (.int .i64 (trip x now).1) ∧ BoxAt w' b (trip x now).2 ∧ w.grownBy w' (some b) := trip_ok h hi now
theorem preset_ok {w : World} {b : Nat} {x : Bx} (h : BoxAt w b x) (_hi : Inv x) (now : Int) :
    Calls Try.prog 15 #[.pointer (some ⟨b, 0, none⟩), .int .i64 now] w fun e w' => e = .returned (.int .i64 (reset x now).1) ∧ BoxAt w' b (reset x now).2 ∧ w.grownBy w' (some b) := reset_ok h now
theorem blk_far {w w' : World} {g b : Nat} {t : TypeId} {cs : Array Value} (h : Blk w g t cs) (hg : w.grownBy w' (some b)) (hne : g ≠ b) : Blk w' g t cs := h.grown hg (fun e => hne (by injection e))
theorem blk_at {w : World} {g : Nat} {t : TypeId} {cs : Array Value} (h : Blk w g t cs) (i : Nat) {v : Value} (hv : cs[i]? = some v) : w.cell? ⟨g, i, none⟩ = some v := (h.cell i).trans hv

set_option maxHeartbeats 16000000 in
set_option maxRecDepth 100000 in
theorem plays_walk (f o p : Int) (a : Option Addr) (cap : Nat) (xs : List St) (hl : xs.length ≤ 9223372036854775807) (w : World) (hA : StepsAt w a xs) :
    Calls Try.prog 7 #[.agg #[.int .i64 f, .int .i64 o, .int .i64 p], .slice a xs.length cap] w fun e w' => e = .returned (.bool true) ∧ Below w.heap.size w w' := by
  obtain ⟨W, hW⟩ : ∃ W : World, Hid (W = w.alloc (.cells #[.int .i64 f, .int .i64 o, .int .i64 p] 23)) := ⟨_, Lib.hid rfl⟩
  have HA : Hid (StepsAt W a xs) := Lib.hid (by rw [hW.out]; exact hA.alloc _)
  have hold : Hid (∀ w1 w2 : World, Below W.heap.size W w1 → Below w1.heap.size w1 w2 → Below w.heap.size w w2) := Lib.hid (by
    intro w1 w2 h1 h2
    have h0 : Below w.heap.size w W := by rw [hW.out]; exact (Below.refl _ _).alloc (Nat.le_refl _) _
    exact h0.trans ((h1.mono h0.size).trans (h2.mono (Nat.le_trans h0.size h1.size))))
  have hrule : Hid (∀ w1 : World, Below W.heap.size W w1 → w1.cell? ⟨w.heap.size, 0, none⟩ = some (.int .i64 f) ∧ w1.cell? ⟨w.heap.size, 1, none⟩ = some (.int .i64 o) ∧ w1.cell? ⟨w.heap.size, 2, none⟩ = some (.int .i64 p)) := Lib.hid (by
    intro w1 h1
    have hb : w.heap.size < W.heap.size := by rw [hW.out]; simp
    exact ⟨by rw [h1.cell (p := ⟨w.heap.size, 0, none⟩) hb, hW.out]; simp, by rw [h1.cell (p := ⟨w.heap.size, 1, none⟩) hb, hW.out]; simp, by rw [h1.cell (p := ⟨w.heap.size, 2, none⟩) hb, hW.out]; simp⟩)
  clear hA
  by_cases hlen : 80 < xs.length
  · go_enter Try.func7, Try.ntmps7
    go_wp2_with fail
    rw [← hW.out]
    have C := works_ok
    (with_reducible refine (C _).mono ?_)
    rintro e w9 ⟨rfl, hb9⟩
    clear C
    have HB9 := Lib.hid (hb9)
    clear hb9
    go_wp2_with fail
    go_ret
    exact ⟨rfl, hold.out _ _ (Below.refl _ _) HB9.out⟩
  · by_cases hv : zero f o p = true ∨ ruled f o p = true
    · have HV := Lib.hid hv
      clear hv
      go_enter Try.func7, Try.ntmps7
      go_wp2_with fail
      rw [← hW.out]
      have C := (fun W' => new_yes (w := W') HV.out)
      (with_reducible refine (C _).mono ?_)
      rintro e w1 ⟨b, rfl, hb, hbl, hn⟩
      clear C
      have HB := Lib.hid hb
      have HE := Lib.hid hbl
      have HN := Lib.hid hn
      clear hb hbl hn
      obtain ⟨hr0, hr1, hr2⟩ := hrule.out _ HE.out
      go_wp2_with fail
      have C := rnew_ok f o p w1 HV.out
      (with_reducible refine C.mono ?_)
      rintro e w2 ⟨c, rfl, hb, hbl, hn⟩
      clear C
      have H : Hid (Two W.heap.size W w2 b c (fresh f o p) (fresh f o p)) := Lib.hid ⟨Blk.below HB.out hbl (Blk.lt HB.out), hb, inv_fresh HV.out, inv_fresh HV.out, by have := Blk.lt HB.out; omega, HN.out, Nat.le_trans HE.out.size hn, HE.out.trans (hbl.mono HE.out.size), Nat.le_refl _⟩
      clear hb hbl hn HB HE HN hr0 hr1 hr2
      go_wp2_with fail
      go_loopw [5, 7, 9] (fun pv qv iv wr => ∃ (k b c : Nat) (x : Bx), pv = .pointer (some ⟨b, 0, none⟩) ∧ qv = .pointer (some ⟨c, 0, none⟩) ∧ iv = .int .i64 k ∧ k ≤ xs.length ∧ Two W.heap.size W wr b c x x) (fun _ _ i _ => xs.length - (intOf i).toNat)
      case atStart => exact ⟨0, b, c, _, rfl, rfl, rfl, by omega, H.out⟩
      clear H
      case round =>
        obtain ⟨k, b, c, x, rfl, rfl, rfl, hk, h⟩ := hrel
        have H := Lib.hid h
        by_cases hlt : k < xs.length
        · obtain ⟨c0, off, rfl, hcell0, hcell1, hcell2⟩ := HA.out.get h.bel (Nat.le_refl _) hlt
          clear h
          generalize xs[k] = s at *
          have HS : Hid (Blk (wr.alloc (.cells #[.int .i64 s.what, .bool s.ok, .int .i64 s.at_] 48)) wr.heap.size 48 #[.int .i64 s.what, .bool s.ok, .int .i64 s.at_]) := Lib.hid (Blk.new _ _ _)
          by_cases h0 : s.what = 0
          · have hb0 : (s.what == 0) = true := by simp [h0]
            clear h0
            go_wp2_with fail
            obtain ⟨er, y, hr⟩ : ∃ er y, take x s.at_ = (er, y) := ⟨_, _, rfl⟩
            have HR := Lib.hid hr
            have HIY : Hid (Inv y) := Lib.hid (by have h := inv_take (now := s.at_) H.out.inv; rw [hr] at h; exact h)
            have HA1 := Lib.hid (H.out.below (((Below.refl _ _).alloc (Nat.le_refl _) (.cells #[.int .i64 s.what, .bool s.ok, .int .i64 s.at_] 48)).drew))
            have C1 := ptake_ok HA1.out.box H.out.inv s.at_
            rw [hr] at C1
            have C1' := Lib.hid C1
            clear hr C1
            have hs0 : wr.heap.size ≠ b := by have := Blk.lt H.out.box; omega
            have hs1 : wr.heap.size ≠ c := by have := Blk.lt H.out.ref; omega
            have hsn := Lib.hid (And.intro hs0 hs1)
            clear hs0 hs1
            go_region_held3 (fun w' => w'.cell? ⟨wr.heap.size, 2, none⟩ = some (.int .i64 s.at_)) (go_keep)
              (first
                | (go_at_call 20; with_reducible refine C1'.out.mono ?_; rintro e w5 ⟨rfl, hb, hg⟩; have H1 := Lib.hid (HA1.out.stepB hb HIY.out hg); have HS1 := Lib.hid (blk_far (HS.out.drew) hg hsn.out.1); have hcell := blk_at HS1.out 2 rfl; have C2 := rtake_ok H1.out.ref H.out.inv s.at_; rw [HR.out] at C2; have C2' := Lib.hid C2; clear hb hg C2)
                | (go_at_call 24; with_reducible refine C2'.out.mono ?_; rintro e w6 ⟨rfl, hb, hg⟩; have H2 := Lib.hid (H1.out.stepC hb HIY.out hg); have HS2 := Lib.hid (blk_far HS1.out hg hsn.out.2); have hcell2 := blk_at HS2.out 2 rfl; clear hb hg))
            clear hcell
            go_wp2_with fail
            have C := shows_ok H2.out.box H2.out.ref H2.out.inv s.at_
            (with_reducible refine C.mono ?_)
            rintro e w7 ⟨rfl, hbs⟩
            clear C
            have H3 := Lib.hid (H2.out.below hbs)
            clear hbs
            go_wp2_with fail
            go_roundw
            case rel => exact ⟨k + 1, _, _, _, rfl, rfl, by go_num, by omega, H3.out⟩
            case measure => simp [intOf]; omega
          · have hb0 : (s.what == 0) = false := by simp [h0]
            by_cases h1 : s.what = 1
            · have hb1 : (s.what == 1) = true := by simp [h1]
              clear h0 h1
              obtain ⟨ev, er, y, hr⟩ : ∃ ev er y, report x s.ok s.at_ = (ev, er, y) := ⟨_, _, _, rfl⟩
              have HR := Lib.hid hr
              have HIY : Hid (Inv y) := Lib.hid (by have h := inv_report (ok := s.ok) (now := s.at_) H.out.inv; rw [hr] at h; exact h)
              have HA1 := Lib.hid (H.out.below (((Below.refl _ _).alloc (Nat.le_refl _) (.cells #[.int .i64 s.what, .bool s.ok, .int .i64 s.at_] 48))))
              have C1 := report_ok HA1.out.box H.out.inv s.ok s.at_
              rw [hr] at C1
              have C1' := Lib.hid C1
              clear hr C1
              have hs0 : wr.heap.size ≠ b := by have := Blk.lt H.out.box; omega
              have hs1 : wr.heap.size ≠ c := by have := Blk.lt H.out.ref; omega
              have hsn := Lib.hid (And.intro hs0 hs1)
              clear hs0 hs1
              go_wp2_with fail
              with_reducible refine C1'.out.mono ?_
              rintro e w5 ⟨rfl, hb, hg⟩
              have H1 := Lib.hid (HA1.out.stepB hb HIY.out hg)
              have HS1 := Lib.hid (blk_far HS.out hg hsn.out.1)
              have hcell1 := blk_at HS1.out 1 rfl
              have hcell := blk_at HS1.out 2 rfl
              have C2 := rreport_ok H1.out.ref H.out.inv s.ok s.at_
              rw [HR.out] at C2
              have C2' := Lib.hid C2
              clear hb hg C2
              go_wp2_with fail
              with_reducible refine C2'.out.mono ?_
              rintro e w6 ⟨rfl, hb, hg⟩
              have H2 := Lib.hid (H1.out.stepC hb HIY.out hg)
              have HS2 := Lib.hid (blk_far HS1.out hg hsn.out.2)
              have hcell2 := blk_at HS2.out 2 rfl
              clear hb hg hcell hcell1
              go_wp2_with fail
              have C := shows_ok H2.out.box H2.out.ref H2.out.inv s.at_
              (with_reducible refine C.mono ?_)
              rintro e w7 ⟨rfl, hbs⟩
              clear C
              have H3 := Lib.hid (H2.out.below hbs)
              clear hbs
              go_wp2_with fail
              go_roundw
              case rel => exact ⟨k + 1, _, _, _, rfl, rfl, by go_num, by omega, H3.out⟩
              case measure => simp [intOf]; omega
            · have hb1 : (s.what == 1) = false := by simp [h1]
              by_cases h2 : s.what = 2
              · have hb2 : (s.what == 2) = true := by simp [h2]
                clear h0 h1 h2
                go_wp2_with fail
                obtain ⟨er, y, hr⟩ : ∃ er y, trip x s.at_ = (er, y) := ⟨_, _, rfl⟩
                have HR := Lib.hid hr
                have HIY : Hid (Inv y) := Lib.hid (by have h := inv_trip (now := s.at_) H.out.inv; rw [hr] at h; exact h)
                have HA1 := Lib.hid (H.out.below (((Below.refl _ _).alloc (Nat.le_refl _) (.cells #[.int .i64 s.what, .bool s.ok, .int .i64 s.at_] 48)).drew))
                have C1 := ptrip_ok HA1.out.box H.out.inv s.at_
                rw [hr] at C1
                have C1' := Lib.hid C1
                clear hr C1
                have hs0 : wr.heap.size ≠ b := by have := Blk.lt H.out.box; omega
                have hs1 : wr.heap.size ≠ c := by have := Blk.lt H.out.ref; omega
                have hsn := Lib.hid (And.intro hs0 hs1)
                clear hs0 hs1
                go_region_held3 (fun w' => w'.cell? ⟨wr.heap.size, 2, none⟩ = some (.int .i64 s.at_)) (go_keep)
                  (first
                    | (go_at_call 19; with_reducible refine C1'.out.mono ?_; rintro e w5 ⟨rfl, hb, hg⟩; have H1 := Lib.hid (HA1.out.stepB hb HIY.out hg); have HS1 := Lib.hid (blk_far (HS.out.drew) hg hsn.out.1); have hcell := blk_at HS1.out 2 rfl; have C2 := rtrip_ok H1.out.ref H.out.inv s.at_; rw [HR.out] at C2; have C2' := Lib.hid C2; clear hb hg C2)
                    | (go_at_call 26; with_reducible refine C2'.out.mono ?_; rintro e w6 ⟨rfl, hb, hg⟩; have H2 := Lib.hid (H1.out.stepC hb HIY.out hg); have HS2 := Lib.hid (blk_far HS1.out hg hsn.out.2); have hcell2 := blk_at HS2.out 2 rfl; clear hb hg))
                clear hcell
                go_wp2_with fail
                have C := shows_ok H2.out.box H2.out.ref H2.out.inv s.at_
                (with_reducible refine C.mono ?_)
                rintro e w7 ⟨rfl, hbs⟩
                clear C
                have H3 := Lib.hid (H2.out.below hbs)
                clear hbs
                go_wp2_with fail
                go_roundw
                case rel => exact ⟨k + 1, _, _, _, rfl, rfl, by go_num, by omega, H3.out⟩
                case measure => simp [intOf]; omega
              · have hb2 : (s.what == 2) = false := by simp [h2]
                by_cases h3 : s.what = 3
                · have hb3 : (s.what == 3) = true := by simp [h3]
                  clear h0 h1 h2 h3
                  go_wp2_with fail
                  obtain ⟨er, y, hr⟩ : ∃ er y, reset x s.at_ = (er, y) := ⟨_, _, rfl⟩
                  have HR := Lib.hid hr
                  have HIY : Hid (Inv y) := Lib.hid (by have h := inv_reset (now := s.at_) H.out.inv; rw [hr] at h; exact h)
                  have HA1 := Lib.hid (H.out.below (((Below.refl _ _).alloc (Nat.le_refl _) (.cells #[.int .i64 s.what, .bool s.ok, .int .i64 s.at_] 48)).drew))
                  have C1 := preset_ok HA1.out.box H.out.inv s.at_
                  rw [hr] at C1
                  have C1' := Lib.hid C1
                  clear hr C1
                  have hs0 : wr.heap.size ≠ b := by have := Blk.lt H.out.box; omega
                  have hs1 : wr.heap.size ≠ c := by have := Blk.lt H.out.ref; omega
                  have hsn := Lib.hid (And.intro hs0 hs1)
                  clear hs0 hs1
                  go_region_held3 (fun w' => w'.cell? ⟨wr.heap.size, 2, none⟩ = some (.int .i64 s.at_)) (go_keep)
                    (first
                      | (go_at_call 15; with_reducible refine C1'.out.mono ?_; rintro e w5 ⟨rfl, hb, hg⟩; have H1 := Lib.hid (HA1.out.stepB hb HIY.out hg); have HS1 := Lib.hid (blk_far (HS.out.drew) hg hsn.out.1); have hcell := blk_at HS1.out 2 rfl; have C2 := rreset_ok H1.out.ref H.out.inv s.at_; rw [HR.out] at C2; have C2' := Lib.hid C2; clear hb hg C2)
                      | (go_at_call 27; with_reducible refine C2'.out.mono ?_; rintro e w6 ⟨rfl, hb, hg⟩; have H2 := Lib.hid (H1.out.stepC hb HIY.out hg); have HS2 := Lib.hid (blk_far HS1.out hg hsn.out.2); have hcell2 := blk_at HS2.out 2 rfl; clear hb hg))
                  clear hcell
                  go_wp2_with fail
                  have C := shows_ok H2.out.box H2.out.ref H2.out.inv s.at_
                  (with_reducible refine C.mono ?_)
                  rintro e w7 ⟨rfl, hbs⟩
                  clear C
                  have H3 := Lib.hid (H2.out.below hbs)
                  clear hbs
                  go_wp2_with fail
                  go_roundw
                  case rel => exact ⟨k + 1, _, _, _, rfl, rfl, by go_num, by omega, H3.out⟩
                  case measure => simp [intOf]; omega
                · have hb3 : (s.what == 3) = false := by simp [h3]
                  have HA1 := Lib.hid (H.out.below (((Below.refl _ _).alloc (Nat.le_refl _) (.cells #[.int .i64 s.what, .bool s.ok, .int .i64 s.at_] 48))))
                  by_cases h4 : s.what = 4
                  · have hb4 : (s.what == 4) = true := by simp [h4]
                    clear h0 h1 h2 h3 h4
                    go_wp2_with fail
                    have C := copy_ok HA1.out.box
                    (with_reducible refine C.mono ?_)
                    rintro e w5 ⟨rfl, hb, hbl, hlt5⟩
                    clear C
                    have HS1 := Lib.hid (Blk.below HS.out hbl (by simp))
                    have R1 := Lib.hid (Blk.below HA1.out.ref hbl (Blk.lt HA1.out.ref))
                    have hsz5 : (wr.alloc (.cells #[.int .i64 s.what, .bool s.ok, .int .i64 s.at_] 48)).heap.size = wr.heap.size + 1 := by simp
                    rw [hsz5] at hb hlt5
                    have B1 := Lib.hid hb
                    have E1 := Lib.hid (HA1.out.bel.trans (hbl.mono (Nat.le_trans HA1.out.size HA1.out.bel.size)))
                    have L1 := Lib.hid hlt5
                    clear hb hbl hlt5 hsz5
                    go_wp2_with fail
                    have C := rcopy_ok R1.out
                    (with_reducible refine C.mono ?_)
                    rintro e w6 ⟨rfl, hb, hbl, -⟩
                    clear C
                    have hx1 := HA1.out.bel.size
                    have hx2 := HA1.out.size
                    have hx3 := E1.out.size
                    have L1' := L1.out
                    have H2 : Hid (Two W.heap.size W w6 (wr.heap.size + 1) w5.heap.size x x) := Lib.hid ⟨Blk.below B1.out hbl (Blk.lt B1.out), hb, H.out.inv, H.out.inv, Nat.ne_of_lt L1', by simpa using hx1, hx3, E1.out.trans (hbl.mono hx3), hx2⟩
                    have HS2 := Lib.hid (Blk.below HS1.out hbl (Blk.lt HS1.out))
                    have hcell2 := blk_at HS2.out 2 rfl
                    clear hb hbl hx1 hx2 hx3 L1'
                    go_wp2_with fail
                    have C := shows_ok H2.out.box H2.out.ref H2.out.inv s.at_
                    (with_reducible refine C.mono ?_)
                    rintro e w7 ⟨rfl, hbs⟩
                    clear C
                    have H3 := Lib.hid (H2.out.below hbs)
                    clear hbs
                    go_wp2_with fail
                    go_roundw
                    case rel => exact ⟨k + 1, _, _, _, rfl, rfl, by go_num, by omega, H3.out⟩
                    case measure => simp [intOf]; omega
                  · have hb4 : (s.what == 4) = false := by simp [h4]
                    clear h0 h1 h2 h3 h4
                    go_wp2_with fail
                    have C := shows_ok HA1.out.box HA1.out.ref HA1.out.inv s.at_
                    (with_reducible refine C.mono ?_)
                    rintro e w7 ⟨rfl, hbs⟩
                    clear C
                    have H3 := Lib.hid (HA1.out.below hbs)
                    clear hbs
                    go_wp2_with fail
                    go_roundw
                    case rel => exact ⟨k + 1, _, _, _, rfl, rfl, by go_num, by omega, H3.out⟩
                    case measure => simp [intOf]; omega
        · clear h
          go_wp2_with fail
          have C := works_ok
          (with_reducible refine (C _).mono ?_)
          rintro e w9 ⟨rfl, hb9⟩
          clear C
          have HB9 := Lib.hid (hb9)
          clear hb9
          go_wp2_with fail
          go_ret
          exact ⟨rfl, hold.out _ _ H.out.bel HB9.out⟩
    · have HV := Lib.hid hv
      clear hv
      go_enter Try.func7, Try.ntmps7
      go_wp2_with fail
      rw [← hW.out]
      have C := (fun W' => new_no (w := W') HV.out)
      (with_reducible refine (C _).mono ?_)
      rintro e w1 ⟨rfl, hbl⟩
      clear C
      have HE := Lib.hid hbl
      obtain ⟨hr0, hr1, hr2⟩ := hrule.out _ HE.out
      clear hbl
      go_wp2_with fail
      have C := rnew_no f o p w1 HV.out
      (with_reducible refine C.mono ?_)
      rintro e w2 ⟨rfl, hbl⟩
      clear C
      have HE2 := Lib.hid (HE.out.trans (hbl.mono HE.out.size))
      clear hbl HE hr0 hr1 hr2
      go_wp2_with fail
      have H : Hid (Below W.heap.size W w2) := HE2
      clear HE2
      go_loopw [5, 7, 9] (fun pv qv iv wr => ∃ k : Nat, pv = .pointer none ∧ qv = .pointer none ∧ iv = .int .i64 k ∧ k ≤ xs.length ∧ Below W.heap.size W wr) (fun _ _ i _ => xs.length - (intOf i).toNat)
      case atStart => exact ⟨0, rfl, rfl, rfl, by omega, H.out⟩
      clear H
      case round =>
        obtain ⟨k, rfl, rfl, rfl, hk, h⟩ := hrel
        have H := Lib.hid h
        by_cases hlt : k < xs.length
        · obtain ⟨c0, off, rfl, hcell0, hcell1, hcell2⟩ := HA.out.get h (Nat.le_refl _) hlt
          clear h
          generalize xs[k] = s at *
          have HB1 := Lib.hid (H.out.alloc H.out.size (.cells #[.int .i64 s.what, .bool s.ok, .int .i64 s.at_] 48))
          have HS := Lib.hid (Blk.new wr 48 #[.int .i64 s.what, .bool s.ok, .int .i64 s.at_])
          by_cases h0 : s.what = 0
          · have hb0 : (s.what == 0) = true := by simp [h0]
            clear h0
            go_wp2_with fail
            go_region_held3 (fun w' => w'.cell? ⟨wr.heap.size, 2, none⟩ = some (.int .i64 s.at_)) (go_keep)
              (first
                | (go_at_call 20; refine (bad_take (.inl rfl) s.at_).mono ?_; rintro e w5 ⟨rfl, rfl⟩)
                | (go_at_call 24; refine (rn_take s.at_).mono ?_; rintro e w6 ⟨rfl, rfl⟩))
            have hcell := blk_at (HS.out.drew) 2 rfl
            have HB2 := Lib.hid HB1.out.drew
            go_wp2_with fail
            have C := (fun W => shows_nil s.at_ W)
            (with_reducible refine (C _).mono ?_)
            rintro e w7 ⟨rfl, hbs⟩
            clear C
            have H3 := Lib.hid (HB2.out.trans (hbs.mono HB2.out.size))
            clear hbs
            go_wp2_with fail
            go_roundw
            case rel => exact ⟨k + 1, rfl, rfl, by go_num, by omega, H3.out⟩
            case measure => simp [intOf]; omega
          · have hb0 : (s.what == 0) = false := by simp [h0]
            by_cases h1 : s.what = 1
            · have hb1 : (s.what == 1) = true := by simp [h1]
              clear h0 h1
              go_wp2_with fail
              have C := (fun W => bad_report (w := W) (.inl rfl) s.ok s.at_)
              (with_reducible refine (C _).mono ?_)
              rintro e w5 ⟨rfl, rfl⟩
              clear C
              go_wp2_with fail
              have C := (fun W => rn_report (w := W) s.ok s.at_)
              (with_reducible refine (C _).mono ?_)
              rintro e w5 ⟨rfl, rfl⟩
              clear C
              go_wp2_with fail
              have C := (fun W => shows_nil s.at_ W)
              (with_reducible refine (C _).mono ?_)
              rintro e w7 ⟨rfl, hbs⟩
              clear C
              have H3 := Lib.hid (HB1.out.trans (hbs.mono HB1.out.size))
              clear hbs
              go_wp2_with fail
              go_roundw
              case rel => exact ⟨k + 1, rfl, rfl, by go_num, by omega, H3.out⟩
              case measure => simp [intOf]; omega
            · have hb1 : (s.what == 1) = false := by simp [h1]
              by_cases h2 : s.what = 2
              · have hb2 : (s.what == 2) = true := by simp [h2]
                clear h0 h1 h2
                go_wp2_with fail
                go_region_held3 (fun w' => w'.cell? ⟨wr.heap.size, 2, none⟩ = some (.int .i64 s.at_)) (go_keep)
                  (first
                    | (go_at_call 19; refine (bad_trip (.inl rfl) s.at_).mono ?_; rintro e w5 ⟨rfl, rfl⟩)
                    | (go_at_call 26; refine (rn_trip s.at_).mono ?_; rintro e w6 ⟨rfl, rfl⟩))
                have hcell := blk_at (HS.out.drew) 2 rfl
                have HB2 := Lib.hid HB1.out.drew
                go_wp2_with fail
                have C := (fun W => shows_nil s.at_ W)
                (with_reducible refine (C _).mono ?_)
                rintro e w7 ⟨rfl, hbs⟩
                clear C
                have H3 := Lib.hid (HB2.out.trans (hbs.mono HB2.out.size))
                clear hbs
                go_wp2_with fail
                go_roundw
                case rel => exact ⟨k + 1, rfl, rfl, by go_num, by omega, H3.out⟩
                case measure => simp [intOf]; omega
              · have hb2 : (s.what == 2) = false := by simp [h2]
                by_cases h3 : s.what = 3
                · have hb3 : (s.what == 3) = true := by simp [h3]
                  clear h0 h1 h2 h3
                  go_wp2_with fail
                  go_region_held3 (fun w' => w'.cell? ⟨wr.heap.size, 2, none⟩ = some (.int .i64 s.at_)) (go_keep)
                    (first
                      | (go_at_call 15; refine (bad_reset (.inl rfl) s.at_).mono ?_; rintro e w5 ⟨rfl, rfl⟩)
                      | (go_at_call 27; refine (rn_reset s.at_).mono ?_; rintro e w6 ⟨rfl, rfl⟩))
                  have hcell := blk_at (HS.out.drew) 2 rfl
                  have HB2 := Lib.hid HB1.out.drew
                  go_wp2_with fail
                  have C := (fun W => shows_nil s.at_ W)
                  (with_reducible refine (C _).mono ?_)
                  rintro e w7 ⟨rfl, hbs⟩
                  clear C
                  have H3 := Lib.hid (HB2.out.trans (hbs.mono HB2.out.size))
                  clear hbs
                  go_wp2_with fail
                  go_roundw
                  case rel => exact ⟨k + 1, rfl, rfl, by go_num, by omega, H3.out⟩
                  case measure => simp [intOf]; omega
                · have hb3 : (s.what == 3) = false := by simp [h3]
                  by_cases h4 : s.what = 4
                  · have hb4 : (s.what == 4) = true := by simp [h4]
                    clear h0 h1 h2 h3 h4
                    go_wp2_with fail
                    have C := (fun W => bad_copy (w := W) (.inl rfl))
                    (with_reducible refine (C _).mono ?_)
                    rintro e w5 ⟨rfl, rfl⟩
                    clear C
                    go_wp2_with fail
                    have C := (fun W => rn_copy (w := W))
                    (with_reducible refine (C _).mono ?_)
                    rintro e w5 ⟨rfl, rfl⟩
                    clear C
                    go_wp2_with fail
                    have C := (fun W => shows_nil s.at_ W)
                    (with_reducible refine (C _).mono ?_)
                    rintro e w7 ⟨rfl, hbs⟩
                    clear C
                    have H3 := Lib.hid (HB1.out.trans (hbs.mono HB1.out.size))
                    clear hbs
                    go_wp2_with fail
                    go_roundw
                    case rel => exact ⟨k + 1, rfl, rfl, by go_num, by omega, H3.out⟩
                    case measure => simp [intOf]; omega
                  · have hb4 : (s.what == 4) = false := by simp [h4]
                    clear h0 h1 h2 h3 h4
                    go_wp2_with fail
                    have C := (fun W => shows_nil s.at_ W)
                    (with_reducible refine (C _).mono ?_)
                    rintro e w7 ⟨rfl, hbs⟩
                    clear C
                    have H3 := Lib.hid (HB1.out.trans (hbs.mono HB1.out.size))
                    clear hbs
                    go_wp2_with fail
                    go_roundw
                    case rel => exact ⟨k + 1, rfl, rfl, by go_num, by omega, H3.out⟩
                    case measure => simp [intOf]; omega
        · clear h
          go_wp2_with fail
          have C := works_ok
          (with_reducible refine (C _).mono ?_)
          rintro e w9 ⟨rfl, hb9⟩
          clear C
          have HB9 := Lib.hid (hb9)
          clear hb9
          go_wp2_with fail
          go_ret
          exact ⟨rfl, hold.out _ _ H.out HB9.out⟩
end Go.Proofs.Ytfeblkoconjakaa.BK
