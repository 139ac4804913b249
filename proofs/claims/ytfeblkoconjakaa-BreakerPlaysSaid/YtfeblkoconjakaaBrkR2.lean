/- Contracts of the reference's calls that change a box. -/
import Derived.Test.YtfeblkoconjakaaBrkR
namespace Go.Proofs.Ytfeblkoconjakaa.BK
open Go Go.RowKit

theorem toB_open (x : Bx) (now : Int) : toB x true now = start x now := rfl
theorem toB_shut (x : Bx) (now : Int) : toB x false now = stop x := rfl
section
variable {w : World} {b : Nat} {x : Bx}
set_option maxHeartbeats 1000000 in
theorem rset_ok (h : RBoxAt w b x) (hi : Inv x) (op : Bool) (now : Int) :
    Calls Try.prog 47 #[.pointer (some ⟨b, 0, none⟩), .bool op, .int .i64 now] w fun e w' => e = .returned (.int .i64 (switched x now)) ∧ RBoxAt w' b (if switched x now = 0 then toB (seen x now) op now else x) ∧ w.grownBy w' (some b) := by
  suffices H : Calls Try.prog 47 #[.pointer (some ⟨b, 0, none⟩), .bool op, .int .i64 now] w fun e w' => ∃ s y, (s = switched x now ∧ y = if switched x now = 0 then toB (seen x now) op now else x) ∧ e = .returned (.int .i64 s) ∧ RBoxAt w' b y ∧ w.grownBy w' (some b) by
    refine H.mono fun e w' ⟨s, y, ⟨h1, h2⟩, h3, h4, h5⟩ => ?_
    rw [← h2, ← h1]; exact ⟨h3, h4, h5⟩
  have C := Lib.hid (first_ok h now)
  have hh := Lib.hid h
  have h1 := (rbox_cells h).2.1
  have hz := fun i => Blk.frozen h i
  have HI : Hid (0 ≤ x.o ∧ x.o ≤ 68719476736) := Lib.hid ⟨hi.small.2.2.1, hi.small.2.2.2.1⟩
  clear h hi
  by_cases hc : check x now = 0
  · have HC := Lib.hid hc
    rw [hc] at C
    by_cases hf : x.f = 0
    · have HS : Hid (switched x now = 9) := Lib.hid (by unfold switched; rw [hc]; simp [hf])
      have HY : Hid (∀ s y, s = 9 → y = x → (s = switched x now ∧ y = if switched x now = 0 then toB (seen x now) op now else x)) := Lib.hid (fun s y h1 h2 => by rw [HS.out]; exact ⟨h1, by rw [if_neg (by decide)]; exact h2⟩)
      have hfb : (x.f == 0) = true := by simp [hf]
      clear hf hc
      refine Calls.mono (R := fun e w' => e = .returned (.int .i64 9) ∧ RBoxAt w' b x ∧ w.grownBy w' (some b)) ?_ fun e w' ⟨h1, h2, h3⟩ => ⟨_, _, HY.out _ _ rfl rfl, h1, h2, h3⟩
      go_enter Try.func47, Try.ntmps47
      go_wp2_with fail
      have C := C.out
      (with_reducible refine C.mono ?_)
      rintro e w' ⟨rfl, rfl⟩
      clear C
      go_wp2_with fail
      go_ret
      exact ⟨rfl, hh.out, only_refl _ _⟩
    · have HS : Hid (switched x now = 0) := Lib.hid (by unfold switched; rw [hc]; simp [hf])
      have HY : Hid (∀ s y, s = 0 → y = toB (seen x now) op now → (s = switched x now ∧ y = if switched x now = 0 then toB (seen x now) op now else x)) := Lib.hid (fun s y h1 h2 => by rw [HS.out]; exact ⟨h1, by rw [if_pos rfl]; exact h2⟩)
      have hfb : (x.f == 0) = false := by simp [hf]
      obtain ⟨c1, c2, c3⟩ := check_zero hc
      unfold maxTime at c2
      clear hf hc c3
      refine Calls.mono (R := fun e w' => e = .returned (.int .i64 0) ∧ RBoxAt w' b (toB (seen x now) op now) ∧ w.grownBy w' (some b)) ?_ fun e w' ⟨h1, h2, h3⟩ => ⟨_, _, HY.out _ _ rfl rfl, h1, h2, h3⟩
      go_enter Try.func47, Try.ntmps47
      go_wp2_with fail
      have C := C.out
      (with_reducible refine C.mono ?_)
      rintro e w' ⟨rfl, rfl⟩
      clear C
      go_wp2_with fail
      have C := to_ok hh.out HI.out op now c1 c2
      (with_reducible refine C.mono ?_)
      rintro e w1 ⟨rfl, hb, hg⟩
      clear C
      have hc1 := fun i => Blk.cell hb i
      have hz1 := fun i => Blk.frozen hb i
      have hsome : w1.cell? ⟨b, 9, none⟩ = some (.int .i64 x.last) := hc1 9
      have HB := Lib.hid hb
      have HG := Lib.hid hg
      clear hb hg hc1 hz
      go_wp2_with fail
      go_ret
      exact ⟨rfl, r_last HB.out now, only_trans HG.out (only_setCell (only_refl _ _) (.inl rfl) _)⟩
  · have HS : Hid (switched x now = check x now) := Lib.hid (by unfold switched; rw [if_pos hc])
    obtain ⟨c, hcc⟩ : ∃ c, check x now = c := ⟨_, rfl⟩
    rw [hcc] at C HS hc
    have HY : Hid (∀ s y, s = c → y = x → (s = switched x now ∧ y = if switched x now = 0 then toB (seen x now) op now else x)) := Lib.hid (fun s y h1 h2 => by rw [HS.out]; exact ⟨h1, by rw [if_neg hc]; exact h2⟩)
    have hcb : (c != 0) = true := by simp [hc]
    clear hc hcc
    refine Calls.mono (R := fun e w' => e = .returned (.int .i64 c) ∧ RBoxAt w' b x ∧ w.grownBy w' (some b)) ?_ fun e w' ⟨h1, h2, h3⟩ => ⟨_, _, HY.out _ _ rfl rfl, h1, h2, h3⟩
    go_enter Try.func47, Try.ntmps47
    go_wp2_with fail
    have C := C.out
    (with_reducible refine C.mono ?_)
    rintro e w' ⟨rfl, rfl⟩
    clear C
    go_wp2_with fail
    go_ret
    exact ⟨rfl, hh.out, only_refl _ _⟩
def setBox (x : Bx) (op : Bool) (now : Int) : Bx := if switched x now = 0 then toB (seen x now) op now else x
theorem rset_ok' (h : RBoxAt w b x) (hi : Inv x) (op : Bool) (now : Int) :
    Calls Try.prog 47 #[.pointer (some ⟨b, 0, none⟩), .bool op, .int .i64 now] w fun e w' => e = .returned (.int .i64 (switched x now)) ∧ RBoxAt w' b (setBox x op now) ∧ w.grownBy w' (some b) := rset_ok h hi op now
theorem trip_set (x : Bx) (now : Int) : trip x now = (switched x now, setBox x true now) := by
  unfold trip setBox; by_cases h : switched x now = 0
  · rw [if_neg (by omega), if_pos h, h, toB_open]
  · rw [if_pos h, if_neg h]
theorem reset_set (x : Bx) (now : Int) : reset x now = (switched x now, setBox x false now) := by
  unfold reset setBox; by_cases h : switched x now = 0
  · rw [if_neg (by omega), if_pos h, h, toB_shut]
  · rw [if_pos h, if_neg h]
theorem rtrip_ok (h : RBoxAt w b x) (hi : Inv x) (now : Int) :
    Calls Try.prog 26 #[.pointer (some ⟨b, 0, none⟩), .int .i64 now] w fun e w' => e = .returned (.int .i64 (trip x now).1) ∧ RBoxAt w' b (trip x now).2 ∧ w.grownBy w' (some b) := by
  rw [trip_set]
  have C := Lib.hid (rset_ok' h hi true now)
  clear h hi
  go_enter Try.func26, Try.ntmps26
  go_wp2_with fail
  have C := C.out
  (with_reducible refine C.mono ?_)
  rintro e w1 ⟨rfl, hb, hg⟩
  clear C
  have HB := Lib.hid (hb)
  have HG := Lib.hid (hg)
  clear hb hg
  go_wp2_with fail
  go_ret
  exact ⟨rfl, HB.out, HG.out⟩
theorem rreset_ok (h : RBoxAt w b x) (hi : Inv x) (now : Int) :
    Calls Try.prog 27 #[.pointer (some ⟨b, 0, none⟩), .int .i64 now] w fun e w' => e = .returned (.int .i64 (reset x now).1) ∧ RBoxAt w' b (reset x now).2 ∧ w.grownBy w' (some b) := by
  rw [reset_set]
  have C := Lib.hid (rset_ok' h hi false now)
  clear h hi
  go_enter Try.func27, Try.ntmps27
  go_wp2_with fail
  have C := C.out
  (with_reducible refine C.mono ?_)
  rintro e w1 ⟨rfl, hb, hg⟩
  clear C
  have HB := Lib.hid (hb)
  have HG := Lib.hid (hg)
  clear hb hg
  go_wp2_with fail
  go_ret
  exact ⟨rfl, HB.out, HG.out⟩

set_option maxHeartbeats 1000000 in
theorem rtake_ok (h : RBoxAt w b x) (hi : Inv x) (now : Int) :
    Calls Try.prog 24 #[.pointer (some ⟨b, 0, none⟩), .int .i64 now] w fun e w' => e = .returned (.int .i64 (take x now).1) ∧ RBoxAt w' b (take x now).2 ∧ w.grownBy w' (some b) := by
  have C := Lib.hid (first_ok h now)
  have A := Lib.hid (rallows_ok h hi now)
  have S := Lib.hid (fun n => rstate_ok (Blk.drewN h n) now)
  have hh := Lib.hid h
  have hs := hi.small
  obtain ⟨c, hc⟩ : ∃ c, check x now = c := ⟨_, rfl⟩
  have HC := Lib.hid hc
  rw [hc] at C
  clear hc
  by_cases hc0 : c = 0
  · subst hc0
    cases ha : allows x now
    · have HT : Hid (take x now = (9, x)) := Lib.hid (by unfold take; rw [HC.out, ha]; simp)
      rw [ha] at A
      clear hs ha h
      rw [HT.out]
      go_enter Try.func24, Try.ntmps24
      go_wp2_with fail
      have C := C.out
      (with_reducible refine C.mono ?_)
      rintro e w' ⟨rfl, rfl⟩
      clear C
      go_wp2_with fail
      have C := A.out
      (with_reducible refine C.mono ?_)
      rintro e w' ⟨rfl, n, rfl⟩
      clear C
      go_wp2_with fail
      go_ret
      exact ⟨rfl, Blk.drewN hh.out n, only_drewN (only_refl _ _) n⟩
    · rw [ha] at A
      by_cases hh2 : x.op = true ∧ x.un ≤ now
      · have HT : Hid (take x now = (0, seen { x with under := x.under + 1 } now)) := Lib.hid (by unfold take; rw [HC.out, ha, if_pos hh2]; simp)
        have hst : state x now = 2 := by unfold state; rw [if_neg (by simp [hh2.1]), if_neg (by omega)]
        rw [hst] at S
        have hcell := (rbox_cells h).2.2.2.2.2.2.2.2.1
        have hcell8 := (rbox_cells h).2.2.2.2.2.2.2.2.2
        have hz := fun i => Blk.frozen h i
        clear ha h hh2 hst
        rw [HT.out]
        go_enter Try.func24, Try.ntmps24
        go_wp2_with fail
        have C := C.out
        (with_reducible refine C.mono ?_)
        rintro e w' ⟨rfl, rfl⟩
        clear C
        go_wp2_with fail
        have C := A.out
        (with_reducible refine C.mono ?_)
        rintro e w' ⟨rfl, n, rfl⟩
        clear C
        go_wp2_with fail
        have C := S.out n
        (with_reducible refine C.mono ?_)
        rintro e w' ⟨rfl, rfl⟩
        clear C
        go_wp2_with fail
        go_ret
        refine ⟨rfl, r_last (r_under (Blk.drewN hh.out n) _) _, ?_⟩
        (repeat (first | (with_reducible exact only_refl _ _) | (with_reducible refine only_drewN ?_ _) | (with_reducible refine only_drew ?_) | (with_reducible refine only_alloc ?_ _) | (with_reducible refine only_setCell ?_ (.inl rfl) _)))
      · have HT : Hid (take x now = (0, seen x now)) := Lib.hid (by unfold take; rw [HC.out, ha, if_neg hh2]; simp)
        have hst : (state x now == 2) = false := by
          unfold state
          cases ho : x.op
          · rfl
          · rw [if_neg (by simp), if_pos (by rw [ho] at hh2; simp at hh2; omega)]; rfl
        have hcell8 := (rbox_cells h).2.2.2.2.2.2.2.2.2
        have hz := fun i => Blk.frozen h i
        generalize state x now = s at *
        clear ha h hh2
        rw [HT.out]
        go_enter Try.func24, Try.ntmps24
        go_wp2_with fail
        have C := C.out
        (with_reducible refine C.mono ?_)
        rintro e w' ⟨rfl, rfl⟩
        clear C
        go_wp2_with fail
        have C := A.out
        (with_reducible refine C.mono ?_)
        rintro e w' ⟨rfl, n, rfl⟩
        clear C
        go_wp2_with fail
        have C := S.out n
        (with_reducible refine C.mono ?_)
        rintro e w' ⟨rfl, rfl⟩
        clear C
        go_wp2_with fail
        go_ret
        refine ⟨rfl, r_last (Blk.drewN hh.out n) _, ?_⟩
        (repeat (first | (with_reducible exact only_refl _ _) | (with_reducible refine only_drewN ?_ _) | (with_reducible refine only_drew ?_) | (with_reducible refine only_alloc ?_ _) | (with_reducible refine only_setCell ?_ (.inl rfl) _)))
  · have HT : Hid (take x now = (c, x)) := Lib.hid (by unfold take; rw [HC.out, if_pos hc0])
    have hcb : (c != 0) = true := by simp [hc0]
    clear hc0 hs h
    rw [HT.out]
    go_enter Try.func24, Try.ntmps24
    go_wp2_with fail
    have C := C.out
    (with_reducible refine C.mono ?_)
    rintro e w' ⟨rfl, rfl⟩
    clear C
    go_wp2_with fail
    go_ret
    exact ⟨rfl, hh.out, only_refl _ _⟩
set_option maxHeartbeats 1000000 in
theorem rcopy_ok (h : RBoxAt w b x) :
    Calls Try.prog 29 #[.pointer (some ⟨b, 0, none⟩)] w fun e w' => e = .returned (.pointer (some ⟨w.heap.size, 0, none⟩)) ∧ RBoxAt w' w.heap.size x ∧ Below w.heap.size w w' ∧ w.heap.size < w'.heap.size := by
  have V := Lib.hid (rvalid_ok h)
  obtain ⟨f, o, p, op, un, fails, good, under, last⟩ := x
  obtain ⟨h0, h1, h2, h3, h4, h5, h6, h7, h8, h9⟩ := rbox_cells h
  clear h
  go_enter Try.func29, Try.ntmps29
  go_wp2_with fail
  have C := V.out
  (with_reducible refine C.mono ?_)
  rintro e w' ⟨rfl, rfl⟩
  clear C
  go_wp2_with fail
  go_ret
  exact ⟨rfl, Blk.new _ _ _, (Below.refl _ _).alloc (Nat.le_refl _) _, by simp⟩
end
end Go.Proofs.Ytfeblkoconjakaa.BK
