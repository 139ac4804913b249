/- Contracts of the limiters, second part: Next, Tat, the reference's Take, making and copying. Contracts of the limiters, third part: the reference's Take; making and copying. -/
import Derived.Test.YtpgckpafjiojfaaGreatDoorAGc
namespace Go.Proofs.YtpgckpafjiojfaaGreatDoor.AD
open Go Go.RowKit
open BK (Blk only_refl only_drew only_drewN only_setCell only_trans only_of_below only_alloc below_drewN)
theorem drewN_drewN (w : World) (n m : Nat) : (w.drewN n).drewN m = w.drewN (n + m) := by
 unfold World.drewN
 simp [Nat.add_assoc]
section
variable {w : World} {b : Nat} {x : Lm}
set_option maxHeartbeats 400000 in
theorem next_ok (h : LmAt w b x) (hi : x.Inv) (now : Int) : Calls Tryz.prog 63 #[.pointer (some ⟨b, 0, none⟩), .int .i64 now] w fun e w' => e = .returned (.tuple #[.int .i64 (x.next now).1, .int .i64 (x.next now).2]) ∧ ∃ n, w' = w.drewN n := by
 have E := Lib.hid (early_ok h hi (max now x.last))
 have T := Lib.hid (istime_ok now w)
 have HV : Hid (x.next now = if timeB now = false then (0, 14) else (if x.so = false then now else if x.early (max now x.last) = true then x.tat - x.tau else max now x.last, 0)) := Lib.hid rfl
 have hs := hi.small
 have hz : x.so = false → x.early now = false := by
  intro h
  unfold Lm.early
  rw [h]
  simp
 generalize x.next now = R at *
 generalize x.early (max now x.last) = eb at *
 obtain ⟨t, tau, so, tat, last⟩ := x
 have c0 : w.cell? ⟨b, 0, none⟩ = some (.bool so) := Blk.cell h 0
 have c1 : w.cell? ⟨b, 1, none⟩ = some (.int .i64 tat) := Blk.cell h 1
 have c2 : w.cell? ⟨b, 2, none⟩ = some (.int .i64 last) := Blk.cell h 2
 have c3 : w.cell? ⟨b, 3, none⟩ = some (.int .i64 t) := Blk.cell h 3
 have c4 : w.cell? ⟨b, 4, none⟩ = some (.int .i64 tau) := Blk.cell h 4
 have c5 : w.cell? ⟨b, 5, none⟩ = some (.bool true) := Blk.cell h 5
 clear h hi
 simp only at HV E hs hz
 have hw : IntKind.i64.wrap (tat - tau) = tat - tau := IntWalk.i64_in _ (by omega)
 by_cases h0 : 0 ≤ now
 ·by_cases h1 : now ≤ 253402300799
  ·have tb : timeB now = true := timeB_iff.2 ⟨h0, h1⟩
   rw [tb] at T HV
   clear tb
   cases so
   ·have HR : Hid (R = (now, 0)) := Lib.hid (by rw [HV.out]; simp)
    clear HV
    go_enter Tryz.func63, Tryz.ntmps63
    go_wp2_with fail
    refine (T.out).mono ?_
    rintro e w' ⟨rfl, rfl⟩
    go_wp2_with fail
    go_ret2
    exact ⟨retII (by rw [HR.out]) (by rw [HR.out]), 0, rfl⟩
   ·have HR : Hid (R = (if eb = true then tat - tau else max now last, 0)) := Lib.hid (by rw [HV.out]; simp)
    clear HV
    cases eb
    ·go_enter Tryz.func63, Tryz.ntmps63
     go_wp2_with fail
     refine (T.out).mono ?_
     rintro e w' ⟨rfl, rfl⟩
     go_wp2_with fail
     refine (E.out).mono ?_
     rintro e w' ⟨rfl, n, rfl⟩
     go_wp2_with fail
     go_ret2
     exact ⟨retII (by rw [HR.out]; rfl) (by rw [HR.out]), n, rfl⟩
    ·go_enter Tryz.func63, Tryz.ntmps63
     go_wp2_with fail
     refine (T.out).mono ?_
     rintro e w' ⟨rfl, rfl⟩
     go_wp2_with fail
     refine (E.out).mono ?_
     rintro e w' ⟨rfl, n, rfl⟩
     go_wp2_with fail
     go_quiet (fail)
     go_wp2_with fail
     go_ret2
     exact ⟨retII (by rw [HR.out]; rfl) (by rw [HR.out]), _, drewN_drewN _ _ _⟩
  ·have tb : timeB now = false := by unfold timeB; rw [decide_eq_false h1, Bool.and_false]
   rw [tb] at T HV
   have HR : Hid (R = (0, 14)) := Lib.hid (by rw [HV.out]; rfl)
   clear HV tb
   go_enter Tryz.func63, Tryz.ntmps63
   go_wp2_with fail
   refine (T.out).mono ?_
   rintro e w' ⟨rfl, rfl⟩
   go_wp2_with fail
   go_ret2
   exact ⟨retII (by rw [HR.out]) (by rw [HR.out]), 0, rfl⟩
 ·have tb : timeB now = false := by unfold timeB; rw [decide_eq_false h0, Bool.false_and]
  rw [tb] at T HV
  have HR : Hid (R = (0, 14)) := Lib.hid (by rw [HV.out]; rfl)
  clear HV tb
  go_enter Tryz.func63, Tryz.ntmps63
  go_wp2_with fail
  refine (T.out).mono ?_
  rintro e w' ⟨rfl, rfl⟩
  go_wp2_with fail
  go_ret2
  exact ⟨retII (by rw [HR.out]) (by rw [HR.out]), 0, rfl⟩
set_option maxHeartbeats 400000 in
theorem rnext_ok (h : RLmAt w b x) (hi : x.Inv) (now : Int) : Calls Tryz.prog 137 #[.pointer (some ⟨b, 0, none⟩), .int .i64 now] w fun e w' => e = .returned (.tuple #[.int .i64 (x.next now).1, .int .i64 (x.next now).2]) ∧ ∃ n, w' = w.drewN n := by
 have E := Lib.hid (rearly_ok h hi (max now x.last))
 have E0 := Lib.hid (rearly_ok h hi now)
 have V := Lib.hid (rlvalid_ok h)
 have HV : Hid (x.next now = if timeB now = false then (0, 14) else (if x.so = false then now else if x.early (max now x.last) = true then x.tat - x.tau else max now x.last, 0)) := Lib.hid rfl
 have hs := hi.small
 have hz : x.so = false → x.early now = false := by
  intro h
  unfold Lm.early
  rw [h]
  simp
 generalize x.next now = R at *
 generalize x.early (max now x.last) = eb at *
 generalize x.early now = e0 at *
 obtain ⟨t, tau, so, tat, last⟩ := x
 have c0 : w.cell? ⟨b, 0, none⟩ = some (.bool true) := Blk.cell h 0
 have c1 : w.cell? ⟨b, 1, none⟩ = some (.int .i64 t) := Blk.cell h 1
 have c2 : w.cell? ⟨b, 2, none⟩ = some (.int .i64 tau) := Blk.cell h 2
 have c3 : w.cell? ⟨b, 3, none⟩ = some (.bool so) := Blk.cell h 3
 have c4 : w.cell? ⟨b, 4, none⟩ = some (.int .i64 tat) := Blk.cell h 4
 have c5 : w.cell? ⟨b, 5, none⟩ = some (.int .i64 last) := Blk.cell h 5
 clear h hi
 simp only at HV E hs hz
 have hw : IntKind.i64.wrap (tat - tau) = tat - tau := IntWalk.i64_in _ (by omega)
 by_cases h0 : 0 ≤ now
 ·by_cases h1 : now ≤ 253402300799
  ·have tb : timeB now = true := timeB_iff.2 ⟨h0, h1⟩
   rw [tb] at HV
   clear tb
   cases so
   ·have HR : Hid (R = (now, 0)) := Lib.hid (by rw [HV.out]; simp)
    clear HV
    have z0 := hz rfl
    subst z0
    go_enter Tryz.func137, Tryz.ntmps137
    go_wp2_with fail
    refine (V.out).mono ?_
    rintro e w' ⟨rfl, rfl⟩
    go_wp2_with fail
    refine (E0.out).mono ?_
    rintro e w' ⟨rfl, n, rfl⟩
    go_wp2_with fail
    go_ret2
    exact ⟨retII (by rw [HR.out]) (by rw [HR.out]), n, rfl⟩
   ·have HR : Hid (R = (if eb = true then tat - tau else max now last, 0)) := Lib.hid (by rw [HV.out]; simp)
    clear HV
    cases eb
    ·go_enter Tryz.func137, Tryz.ntmps137
     go_wp2_with fail
     refine (V.out).mono ?_
     rintro e w' ⟨rfl, rfl⟩
     go_wp2_with fail
     refine (E.out).mono ?_
     rintro e w' ⟨rfl, n, rfl⟩
     go_wp2_with fail
     go_ret2
     exact ⟨retII (by rw [HR.out]; rfl) (by rw [HR.out]), n, rfl⟩
    ·go_enter Tryz.func137, Tryz.ntmps137
     go_wp2_with fail
     refine (V.out).mono ?_
     rintro e w' ⟨rfl, rfl⟩
     go_wp2_with fail
     refine (E.out).mono ?_
     rintro e w' ⟨rfl, n, rfl⟩
     go_wp2_with fail
     go_quiet (fail)
     go_wp2_with fail
     go_ret2
     exact ⟨retII (by rw [HR.out]; rfl) (by rw [HR.out]), _, drewN_drewN _ _ _⟩
  ·have tb : timeB now = false := by unfold timeB; rw [decide_eq_false h1, Bool.and_false]
   rw [tb] at HV
   have HR : Hid (R = (0, 14)) := Lib.hid (by rw [HV.out]; rfl)
   clear HV tb
   go_enter Tryz.func137, Tryz.ntmps137
   go_wp2_with fail
   refine (V.out).mono ?_
   rintro e w' ⟨rfl, rfl⟩
   go_wp2_with fail
   go_ret2
   exact ⟨retII (by rw [HR.out]) (by rw [HR.out]), 0, rfl⟩
 ·have tb : timeB now = false := by unfold timeB; rw [decide_eq_false h0, Bool.false_and]
  rw [tb] at HV
  have HR : Hid (R = (0, 14)) := Lib.hid (by rw [HV.out]; rfl)
  clear HV tb
  go_enter Tryz.func137, Tryz.ntmps137
  go_wp2_with fail
  refine (V.out).mono ?_
  rintro e w' ⟨rfl, rfl⟩
  go_wp2_with fail
  go_ret2
  exact ⟨retII (by rw [HR.out]) (by rw [HR.out]), 0, rfl⟩
theorem retIB {a b : Int} {c d : Bool} (h : a = b) (h' : c = d) : Ending.returned (.tuple #[.int .i64 a, .bool c]) = .returned (.tuple #[.int .i64 b, .bool d]) := by rw [h, h']
theorem arrival_ok (h : LmAt w b x) : Calls Tryz.prog 139 #[.pointer (some ⟨b, 0, none⟩)] w fun e w' => e = .returned (.tuple #[.int .i64 x.tat, .bool x.so]) ∧ ∃ n, w' = w.drewN n := by
 obtain ⟨t, tau, so, tat, last⟩ := x
 have c0 : w.cell? ⟨b, 0, none⟩ = some (.bool so) := Blk.cell h 0
 have c1 : w.cell? ⟨b, 1, none⟩ = some (.int .i64 tat) := Blk.cell h 1
 have c2 : w.cell? ⟨b, 2, none⟩ = some (.int .i64 last) := Blk.cell h 2
 have c3 : w.cell? ⟨b, 3, none⟩ = some (.int .i64 t) := Blk.cell h 3
 have c4 : w.cell? ⟨b, 4, none⟩ = some (.int .i64 tau) := Blk.cell h 4
 have c5 : w.cell? ⟨b, 5, none⟩ = some (.bool true) := Blk.cell h 5
 clear h
 go_enter Tryz.func139, Tryz.ntmps139
 go_wp2_with fail
 go_quiet (fail)
 go_wp2_with fail
 go_ret2
 exact ⟨rfl, _, rfl⟩
theorem tat_ok (h : LmAt w b x) : Calls Tryz.prog 85 #[.pointer (some ⟨b, 0, none⟩)] w fun e w' => e = .returned (.tuple #[.int .i64 x.tat, .bool x.so]) ∧ ∃ n, w' = w.drewN n := by
 have C := Lib.hid (arrival_ok h)
 clear h
 go_enter Tryz.func85, Tryz.ntmps85
 go_wp2_with fail
 refine (C.out).mono ?_
 rintro e w' ⟨rfl, n, rfl⟩
 go_wp2_with fail
 go_ret2
 exact ⟨rfl, n, rfl⟩
theorem rtat_ok (h : RLmAt w b x) : Calls Tryz.prog 140 #[.pointer (some ⟨b, 0, none⟩)] w fun e w' => e = .returned (.tuple #[.int .i64 (if x.so = true then x.tat else 0), .bool x.so]) ∧ w' = w := by
 have V := Lib.hid (rlvalid_ok h)
 obtain ⟨t, tau, so, tat, last⟩ := x
 have c0 : w.cell? ⟨b, 0, none⟩ = some (.bool true) := Blk.cell h 0
 have c1 : w.cell? ⟨b, 1, none⟩ = some (.int .i64 t) := Blk.cell h 1
 have c2 : w.cell? ⟨b, 2, none⟩ = some (.int .i64 tau) := Blk.cell h 2
 have c3 : w.cell? ⟨b, 3, none⟩ = some (.bool so) := Blk.cell h 3
 have c4 : w.cell? ⟨b, 4, none⟩ = some (.int .i64 tat) := Blk.cell h 4
 have c5 : w.cell? ⟨b, 5, none⟩ = some (.int .i64 last) := Blk.cell h 5
 clear h
 cases so
 all_goals
  go_enter Tryz.func140, Tryz.ntmps140
  go_wp2_with fail
  refine (V.out).mono ?_
  rintro e w' ⟨rfl, rfl⟩
  go_wp2_with fail
  go_ret2
  exact ⟨rfl, rfl⟩
end
end Go.Proofs.YtpgckpafjiojfaaGreatDoor.AD

namespace Go.Proofs.YtpgckpafjiojfaaGreatDoor.AD
open Go Go.RowKit
open BK (Blk only_refl only_drew only_drewN only_setCell only_trans only_of_below only_alloc below_drewN)
open BW (limB inB)
section
variable {w : World} {b : Nat} {x : Lm}
set_option maxRecDepth 8000 in
set_option maxHeartbeats 1000000 in
theorem rltake_ok (h : RLmAt w b x) (hi : x.Inv) (now : Int) : Calls Tryz.prog 74 #[.pointer (some ⟨b, 0, none⟩), .int .i64 now] w fun e w' => e = .returned (.int .i64 (x.take now).1) ∧ RLmAt w' b (x.take now).2 ∧ w.grownBy w' (some b) := by
 have C := Lib.hid (rcheck_ok h hi now)
 have hh := Lib.hid h
 by_cases hc : x.check now = 0
 ·have HT : Hid (x.take now = (0, x.count now)) := Lib.hid (by unfold Lm.take; rw [if_pos hc])
  have ht := timeB_iff.1 (Lm.check_zero hc).1
  rw [hc] at C
  have hs := hi.small
  have hn := hi.no
  obtain ⟨t, tau, so, tat, last⟩ := x
  have c0 : w.cell? ⟨b, 0, none⟩ = some (.bool true) := Blk.cell h 0
  have c1 : w.cell? ⟨b, 1, none⟩ = some (.int .i64 t) := Blk.cell h 1
  have c2 : w.cell? ⟨b, 2, none⟩ = some (.int .i64 tau) := Blk.cell h 2
  have c3 : w.cell? ⟨b, 3, none⟩ = some (.bool so) := Blk.cell h 3
  have c4 : w.cell? ⟨b, 4, none⟩ = some (.int .i64 tat) := Blk.cell h 4
  have c5 : w.cell? ⟨b, 5, none⟩ = some (.int .i64 last) := Blk.cell h 5
  have f0 : w.frozen? ⟨b, 0, none⟩ = false := Blk.frozen h 0
  have f1 : w.frozen? ⟨b, 1, none⟩ = false := Blk.frozen h 1
  have f2 : w.frozen? ⟨b, 2, none⟩ = false := Blk.frozen h 2
  have f3 : w.frozen? ⟨b, 3, none⟩ = false := Blk.frozen h 3
  have f4 : w.frozen? ⟨b, 4, none⟩ = false := Blk.frozen h 4
  have f5 : w.frozen? ⟨b, 5, none⟩ = false := Blk.frozen h 5
  clear h hi hc
  simp only at hs hn
  have hw : IntKind.i64.wrap (max now tat + t) = max now tat + t := IntWalk.i64_in _ (by omega)
  have hw2 : IntKind.i64.wrap (now + t) = now + t := IntWalk.i64_in _ (by omega)
  cases so
  ·have hv : max now tat = now := by have := (hn rfl).1; omega
   go_enter Tryz.func74, Tryz.ntmps74
   go_wp2_with fail
   refine (C.out).mono ?_
   rintro e w' ⟨rfl, n, rfl⟩
   go_wp2_with fail
   go_ret
   refine ⟨retI (by rw [HT.out]), ?_, ?_⟩
   ·rw [HT.out]
    have h1 := (((hh.out.drewN n).set_ 4 (.int .i64 (now + t))).set_ 3 (.bool true)).set_ 5 (.int .i64 now)
    have e1 : (⟨t, tau, false, tat, last⟩ : Lm).count now = ⟨t, tau, true, now + t, now⟩ := by unfold Lm.count; simp only [hv]
    simp only [e1]
    exact h1
   ·(repeat (first | (with_reducible exact only_refl _ _) | (with_reducible refine only_drew ?_) | (with_reducible refine only_drewN ?_ _) | (with_reducible refine only_setCell ?_ (.inl rfl) _)))
  ·go_enter Tryz.func74, Tryz.ntmps74
   go_wp2_with fail
   refine (C.out).mono ?_
   rintro e w' ⟨rfl, n, rfl⟩
   have hx := hh.out.drewN n
   have hg : w.grownBy (w.drewN n) (some b) := only_drewN (only_refl w _) n
   generalize w.drewN n = W at *
   clear hh
   have hh := Lib.hid hx
   have HG := Lib.hid hg
   have c0 : W.cell? ⟨b, 0, none⟩ = some (.bool true) := Blk.cell hx 0
   have c1 : W.cell? ⟨b, 1, none⟩ = some (.int .i64 t) := Blk.cell hx 1
   have c2 : W.cell? ⟨b, 2, none⟩ = some (.int .i64 tau) := Blk.cell hx 2
   have c3 : W.cell? ⟨b, 3, none⟩ = some (.bool true) := Blk.cell hx 3
   have c4 : W.cell? ⟨b, 4, none⟩ = some (.int .i64 tat) := Blk.cell hx 4
   have c5 : W.cell? ⟨b, 5, none⟩ = some (.int .i64 last) := Blk.cell hx 5
   have f0 : W.frozen? ⟨b, 0, none⟩ = false := Blk.frozen hx 0
   have f1 : W.frozen? ⟨b, 1, none⟩ = false := Blk.frozen hx 1
   have f2 : W.frozen? ⟨b, 2, none⟩ = false := Blk.frozen hx 2
   have f3 : W.frozen? ⟨b, 3, none⟩ = false := Blk.frozen hx 3
   have f4 : W.frozen? ⟨b, 4, none⟩ = false := Blk.frozen hx 4
   have f5 : W.frozen? ⟨b, 5, none⟩ = false := Blk.frozen hx 5
   clear hx hg
   go_wp2_with fail
   go_still_tail 13, (by kernel_rfl)
   change wpList _ _ _ _ _ (World.drew _)
   go_wp2_with fail
   go_ret
   refine ⟨retI (by rw [HT.out]), ?_, ?_⟩
   ·rw [HT.out]
    have h1 := (((hh.out.drew).set_ 4 (.int .i64 (max now tat + t))).set_ 3 (.bool true)).set_ 5 (.int .i64 now)
    exact h1
   ·(repeat (first | (with_reducible exact HG.out) | (with_reducible refine only_drew ?_) | (with_reducible refine only_drewN ?_ _) | (with_reducible refine only_setCell ?_ (.inl rfl) _)))
 ·have HT : Hid (x.take now = (x.check now, x)) := Lib.hid (by unfold Lm.take; rw [if_neg hc])
  generalize x.check now = E at *
  have q1 : (E == 0) = false := by rw [beq_eq_false_iff_ne]; exact hc
  have q2 : (E != 0) = true := by rw [bne, q1]; rfl
  clear h hi hc
  go_enter Tryz.func74, Tryz.ntmps74
  go_wp2_with fail
  refine (C.out).mono ?_
  rintro e w' ⟨rfl, n, rfl⟩
  go_wp2_with fail
  go_ret
  rw [HT.out]
  exact ⟨rfl, hh.out.drewN n, only_drewN (only_refl w _) n⟩
theorem lcopy_ok (h : LmAt w b x) : Calls Tryz.prog 67 #[.pointer (some ⟨b, 0, none⟩)] w fun e w' => e = .returned (.pointer (some ⟨w.heap.size, 0, none⟩)) ∧ LmAt w' w.heap.size x ∧ Below w.heap.size w w' ∧ w.heap.size < w'.heap.size := by
 obtain ⟨t, tau, so, tat, last⟩ := x
 have c0 : w.cell? ⟨b, 0, none⟩ = some (.bool so) := Blk.cell h 0
 have c1 : w.cell? ⟨b, 1, none⟩ = some (.int .i64 tat) := Blk.cell h 1
 have c2 : w.cell? ⟨b, 2, none⟩ = some (.int .i64 last) := Blk.cell h 2
 have c3 : w.cell? ⟨b, 3, none⟩ = some (.int .i64 t) := Blk.cell h 3
 have c4 : w.cell? ⟨b, 4, none⟩ = some (.int .i64 tau) := Blk.cell h 4
 have c5 : w.cell? ⟨b, 5, none⟩ = some (.bool true) := Blk.cell h 5
 clear h
 go_enter Tryz.func67, Tryz.ntmps67
 go_wp2_with fail
 go_ret
 exact ⟨rfl, Blk.new _ _ _, (Below.refl _ _).alloc (Nat.le_refl _) _, by simp⟩
end
theorem in_ok (n : Int) (w : World) : Calls Tryz.prog 147 #[.int .i64 n] w fun e w' => e = .returned (.bool (inB n 0 68719476736)) ∧ w' = w := by
 unfold inB
 by_cases h : 0 ≤ n
 all_goals
  go_enter Tryz.func147, Tryz.ntmps147
  go_wp2
  go_ret
  exact ⟨retB (by simp; try omega), rfl⟩
theorem lvalid_ok {t tau : Int} (hl : limB t tau = true) (w : World) : Calls Tryz.prog 101 #[.agg #[.int .i64 t, .int .i64 tau]] w fun e w' => e = .returned (.bool true) ∧ Below w.heap.size w w' := by
 have C1 := Lib.hid (fun W => in_ok t W)
 have C2 := Lib.hid (fun W => in_ok tau W)
 unfold limB at hl
 simp only [Bool.and_eq_true, Bool.or_eq_true] at hl
 obtain ⟨⟨h1, h2⟩, h3⟩ := hl
 rw [h1] at C1
 rw [h2] at C2
 clear h1 h2
 by_cases hp : 0 < t
 ·clear h3
  go_enter Tryz.func101, Tryz.ntmps101
  go_wp2_with fail
  refine (C1.out _).mono ?_
  rintro e w' ⟨rfl, rfl⟩
  go_wp2_with fail
  refine (C2.out _).mono ?_
  rintro e w' ⟨rfl, rfl⟩
  go_wp2_with fail
  go_ret
  exact ⟨rfl, (Below.refl _ _).alloc (Nat.le_refl _) _⟩
 ·have hz : tau = 0 := by
   rcases h3 with h3 | h3
   ·exact absurd (of_decide_eq_true h3) hp
   ·exact eq_of_beq h3
  subst hz
  clear h3
  go_enter Tryz.func101, Tryz.ntmps101
  go_wp2_with fail
  refine (C1.out _).mono ?_
  rintro e w' ⟨rfl, rfl⟩
  go_wp2_with fail
  refine (C2.out _).mono ?_
  rintro e w' ⟨rfl, rfl⟩
  go_wp2_with fail
  go_ret
  exact ⟨rfl, (Below.refl _ _).alloc (Nat.le_refl _) _⟩
theorem rlvld_ok {t tau : Int} (hl : limB t tau = true) (w : World) : Calls Tryz.prog 126 #[.agg #[.int .i64 t, .int .i64 tau]] w fun e w' => e = .returned (.bool true) ∧ Below w.heap.size w w' := by
 unfold limB inB at hl
 simp only [Bool.and_eq_true, Bool.or_eq_true, decide_eq_true_eq, beq_iff_eq] at hl
 obtain ⟨⟨⟨h1, h2⟩, h3, h4⟩, h5⟩ := hl
 by_cases hp : 0 < t
 ·clear h5
  go_enter Tryz.func126, Tryz.ntmps126
  go_wp2_with fail
  go_ret
  exact ⟨rfl, (Below.refl _ _).alloc (Nat.le_refl _) _⟩
 ·have hz : tau = 0 := by omega
  subst hz
  clear h5
  go_enter Tryz.func126, Tryz.ntmps126
  go_wp2_with fail
  go_ret
  exact ⟨rfl, (Below.refl _ _).alloc (Nat.le_refl _) _⟩
theorem lnew_ok {t tau : Int} (hl : limB t tau = true) (w : World) : Calls Tryz.prog 41 #[.agg #[.int .i64 t, .int .i64 tau]] w fun e w' => ∃ n, e = .returned (.tuple #[.pointer (some ⟨n, 0, none⟩), .int .i64 0]) ∧ LmAt w' n (lm0 t tau) ∧ Below w.heap.size w w' ∧ w.heap.size ≤ n ∧ n < w'.heap.size := by
 have C := Lib.hid (fun W => lvalid_ok hl W)
 clear hl
 go_enter Tryz.func41, Tryz.ntmps41
 go_wp2_with fail
 refine (C.out _).mono ?_
 rintro e w1 ⟨rfl, hb⟩
 have HB := Lib.hid hb
 have h0 : w1.cell? ⟨w.heap.size, 0, none⟩ = some (.int .i64 t) := by rw [hb.cell (p := ⟨w.heap.size, 0, none⟩) (by simp)]; simp
 have h1 : w1.cell? ⟨w.heap.size, 1, none⟩ = some (.int .i64 tau) := by rw [hb.cell (p := ⟨w.heap.size, 1, none⟩) (by simp)]; simp
 clear hb
 go_wp2_with fail
 go_ret2
 have h9 := HB.out.size
 simp at h9
 exact ⟨_, rfl, Blk.newAt rfl, (((Below.refl _ _).alloc (Nat.le_refl _) _).trans (HB.out.mono (by simp))).alloc (by omega) _, by omega, by simp⟩
theorem rlnew_ok {t tau : Int} (hl : limB t tau = true) (w : World) : Calls Tryz.prog 71 #[.agg #[.int .i64 t, .int .i64 tau]] w fun e w' => ∃ n, e = .returned (.tuple #[.pointer (some ⟨n, 0, none⟩), .int .i64 0]) ∧ RLmAt w' n (lm0 t tau) ∧ Below w.heap.size w w' ∧ w.heap.size ≤ n ∧ n < w'.heap.size := by
 have C := Lib.hid (fun W => rlvld_ok hl W)
 clear hl
 go_enter Tryz.func71, Tryz.ntmps71
 go_wp2_with fail
 refine (C.out _).mono ?_
 rintro e w1 ⟨rfl, hb⟩
 have HB := Lib.hid hb
 have h0 : w1.cell? ⟨w.heap.size, 0, none⟩ = some (.int .i64 t) := by rw [hb.cell (p := ⟨w.heap.size, 0, none⟩) (by simp)]; simp
 have h1 : w1.cell? ⟨w.heap.size, 1, none⟩ = some (.int .i64 tau) := by rw [hb.cell (p := ⟨w.heap.size, 1, none⟩) (by simp)]; simp
 clear hb
 go_wp2_with fail
 go_ret2
 have h9 := HB.out.size
 simp at h9
 exact ⟨_, rfl, Blk.newAt rfl, (((Below.refl _ _).alloc (Nat.le_refl _) _).trans (HB.out.mono (by simp))).alloc (by omega) _, by omega, by simp⟩
end Go.Proofs.YtpgckpafjiojfaaGreatDoor.AD
