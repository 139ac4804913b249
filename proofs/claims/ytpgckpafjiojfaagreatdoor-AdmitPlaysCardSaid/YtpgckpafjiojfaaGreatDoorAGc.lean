/- Contracts of the limiters: gcra's and the reference's. -/
import Derived.Test.YtpgckpafjiojfaaGreatDoorALm
import Derived.StillTailTactics
import Derived.Deep.QuietTactic
import Derived.BigQuiet
namespace Go.Proofs.YtpgckpafjiojfaaGreatDoor.AD
open Go Go.RowKit
open BK (Blk only_refl only_drew only_drewN only_setCell only_trans only_of_below only_alloc below_drewN)
def Lm.cells (x : Lm) : Array Value := #[.bool x.so, .int .i64 x.tat, .int .i64 x.last, .int .i64 x.t, .int .i64 x.tau, .bool true]
def Lm.rcells (x : Lm) : Array Value := #[.bool true, .int .i64 x.t, .int .i64 x.tau, .bool x.so, .int .i64 x.tat, .int .i64 x.last]
def LmAt (w : World) (b : Nat) (x : Lm) : Prop := Blk w b 179 x.cells
def RLmAt (w : World) (b : Nat) (x : Lm) : Prop := Blk w b 196 x.rcells
theorem retB {a b : Bool} (h : a = b) : Ending.returned (.bool a) = .returned (.bool b) := by rw [h]
theorem retI {a b : Int} (h : a = b) : Ending.returned (.int .i64 a) = .returned (.int .i64 b) := by rw [h]
theorem retII {a b c d : Int} (h : a = b) (h' : c = d) : Ending.returned (.tuple #[.int .i64 a, .int .i64 c]) = .returned (.tuple #[.int .i64 b, .int .i64 d]) := by rw [h, h']
theorem istime_ok (now : Int) (w : World) : Calls Tryz.prog 119 #[.int .i64 now] w fun e w' => e = .returned (.bool (timeB now)) ∧ w = w' := by
 unfold timeB
 by_cases h : 0 ≤ now
 all_goals
  go_enter Tryz.func119, Tryz.ntmps119
  go_wp2
  go_ret
  exact ⟨retB (by simp; try omega), rfl⟩
section
variable {w : World} {b : Nat} {x : Lm}
theorem early_ok (h : LmAt w b x) (hi : x.Inv) (now : Int) : Calls Tryz.prog 120 #[.pointer (some ⟨b, 0, none⟩), .int .i64 now] w fun e w' => e = .returned (.bool (x.early now)) ∧ ∃ n, w' = w.drewN n := by
 have hs := hi.small
 obtain ⟨t, tau, so, tat, last⟩ := x
 have c0 : w.cell? ⟨b, 0, none⟩ = some (.bool so) := Blk.cell h 0
 have c1 : w.cell? ⟨b, 1, none⟩ = some (.int .i64 tat) := Blk.cell h 1
 have c2 : w.cell? ⟨b, 2, none⟩ = some (.int .i64 last) := Blk.cell h 2
 have c3 : w.cell? ⟨b, 3, none⟩ = some (.int .i64 t) := Blk.cell h 3
 have c4 : w.cell? ⟨b, 4, none⟩ = some (.int .i64 tau) := Blk.cell h 4
 have c5 : w.cell? ⟨b, 5, none⟩ = some (.bool true) := Blk.cell h 5
 clear h hi
 simp only at hs
 have hw : IntKind.i64.wrap (tat - tau) = tat - tau := IntWalk.i64_in _ (by omega)
 unfold Lm.early
 simp only
 by_cases ht : 0 < t
 ·have d1 : decide (0 < t) = true := decide_eq_true ht
  rw [d1]
  cases so
  all_goals
   go_enter Tryz.func120, Tryz.ntmps120
   go_wp2_with fail
   go_quiet (fail)
   go_wp2_with fail
   go_ret
   exact ⟨retB (by simp), _, rfl⟩
 ·have d1 : decide (0 < t) = false := decide_eq_false ht
  rw [d1]
  go_enter Tryz.func120, Tryz.ntmps120
  go_wp2_with fail
  go_quiet (fail)
  go_wp2_with fail
  go_ret
  exact ⟨retB (by simp), _, rfl⟩
theorem rearly_ok (h : RLmAt w b x) (hi : x.Inv) (now : Int) : Calls Tryz.prog 160 #[.pointer (some ⟨b, 0, none⟩), .int .i64 now] w fun e w' => e = .returned (.bool (x.early now)) ∧ ∃ n, w' = w.drewN n := by
 have hs := hi.small
 obtain ⟨t, tau, so, tat, last⟩ := x
 have c0 : w.cell? ⟨b, 0, none⟩ = some (.bool true) := Blk.cell h 0
 have c1 : w.cell? ⟨b, 1, none⟩ = some (.int .i64 t) := Blk.cell h 1
 have c2 : w.cell? ⟨b, 2, none⟩ = some (.int .i64 tau) := Blk.cell h 2
 have c3 : w.cell? ⟨b, 3, none⟩ = some (.bool so) := Blk.cell h 3
 have c4 : w.cell? ⟨b, 4, none⟩ = some (.int .i64 tat) := Blk.cell h 4
 have c5 : w.cell? ⟨b, 5, none⟩ = some (.int .i64 last) := Blk.cell h 5
 clear h hi
 simp only at hs
 have hw : IntKind.i64.wrap (tat - tau) = tat - tau := IntWalk.i64_in _ (by omega)
 unfold Lm.early
 simp only
 by_cases ht : 0 < t
 ·have d1 : decide (0 < t) = true := decide_eq_true ht
  rw [d1]
  cases so
  all_goals
   go_enter Tryz.func160, Tryz.ntmps160
   go_wp2_with fail
   go_quiet (fail)
   go_wp2_with fail
   go_ret
   exact ⟨retB (by simp), _, rfl⟩
 ·have d1 : decide (0 < t) = false := decide_eq_false ht
  rw [d1]
  go_enter Tryz.func160, Tryz.ntmps160
  go_wp2_with fail
  go_quiet (fail)
  go_wp2_with fail
  go_ret
  exact ⟨retB (by simp), _, rfl⟩
theorem rlvalid_ok (h : RLmAt w b x) : Calls Tryz.prog 159 #[.pointer (some ⟨b, 0, none⟩)] w fun e w' => e = .returned (.bool true) ∧ w = w' := by
 have c0 : w.cell? ⟨b, 0, none⟩ = some (.bool true) := Blk.cell h 0
 clear h
 go_enter Tryz.func159, Tryz.ntmps159
 go_wp2
 go_ret
 exact ⟨rfl, rfl⟩
theorem check_ok (h : LmAt w b x) (hi : x.Inv) (now : Int) : Calls Tryz.prog 115 #[.pointer (some ⟨b, 0, none⟩), .int .i64 now] w fun e w' => e = .returned (.int .i64 (x.check now)) ∧ ∃ n, w' = w.drewN n := by
 have E := Lib.hid (early_ok h hi now)
 have T := Lib.hid (istime_ok now w)
 have HV : Hid (x.check now = if timeB now = false then 14 else if (x.so && decide (now < x.last)) = true then 8 else if x.early now = true then 9 else 0) := Lib.hid rfl
 generalize x.check now = R at *
 generalize x.early now = eb at *
 obtain ⟨t, tau, so, tat, last⟩ := x
 have c0 : w.cell? ⟨b, 0, none⟩ = some (.bool so) := Blk.cell h 0
 have c1 : w.cell? ⟨b, 1, none⟩ = some (.int .i64 tat) := Blk.cell h 1
 have c2 : w.cell? ⟨b, 2, none⟩ = some (.int .i64 last) := Blk.cell h 2
 have c3 : w.cell? ⟨b, 3, none⟩ = some (.int .i64 t) := Blk.cell h 3
 have c4 : w.cell? ⟨b, 4, none⟩ = some (.int .i64 tau) := Blk.cell h 4
 have c5 : w.cell? ⟨b, 5, none⟩ = some (.bool true) := Blk.cell h 5
 clear h hi
 simp only at HV
 by_cases h0 : 0 ≤ now
 ·by_cases h1 : now ≤ 253402300799
  ·have tb : timeB now = true := timeB_iff.2 ⟨h0, h1⟩
   rw [tb] at T HV
   clear tb
   by_cases h2 : now < last
   ·cases so
    ·have HR : Hid (R = if eb = true then 9 else 0) := Lib.hid (by rw [HV.out]; simp)
     clear HV
     cases eb
     all_goals
      go_enter Tryz.func115, Tryz.ntmps115
      go_wp2_with fail
      refine (T.out).mono ?_
      rintro e w' ⟨rfl, rfl⟩
      go_wp2_with fail
      refine (E.out).mono ?_
      rintro e w' ⟨rfl, n, rfl⟩
      go_wp2_with fail
      go_ret
      exact ⟨retI (by rw [HR.out]; rfl), n, rfl⟩
    ·have HR : Hid (R = 8) := Lib.hid (by rw [HV.out]; simp [h2])
     clear HV
     go_enter Tryz.func115, Tryz.ntmps115
     go_wp2_with fail
     refine (T.out).mono ?_
     rintro e w' ⟨rfl, rfl⟩
     go_wp2_with fail
     go_ret
     exact ⟨retI (by rw [HR.out]), 0, rfl⟩
   ·have HR : Hid (R = if eb = true then 9 else 0) := Lib.hid (by rw [HV.out]; simp [h2])
    clear HV
    cases so
    all_goals
     cases eb
     all_goals
      go_enter Tryz.func115, Tryz.ntmps115
      go_wp2_with fail
      refine (T.out).mono ?_
      rintro e w' ⟨rfl, rfl⟩
      go_wp2_with fail
      refine (E.out).mono ?_
      rintro e w' ⟨rfl, n, rfl⟩
      go_wp2_with fail
      go_ret
      exact ⟨retI (by rw [HR.out]; rfl), n, rfl⟩
  ·have tb : timeB now = false := by unfold timeB; rw [decide_eq_false h1, Bool.and_false]
   rw [tb] at T HV
   have HR : Hid (R = 14) := Lib.hid (by rw [HV.out]; rfl)
   clear HV tb
   go_enter Tryz.func115, Tryz.ntmps115
   go_wp2_with fail
   refine (T.out).mono ?_
   rintro e w' ⟨rfl, rfl⟩
   go_wp2_with fail
   go_ret
   exact ⟨retI (by rw [HR.out]), 0, rfl⟩
 ·have tb : timeB now = false := by unfold timeB; rw [decide_eq_false h0, Bool.false_and]
  rw [tb] at T HV
  have HR : Hid (R = 14) := Lib.hid (by rw [HV.out]; rfl)
  clear HV tb
  go_enter Tryz.func115, Tryz.ntmps115
  go_wp2_with fail
  refine (T.out).mono ?_
  rintro e w' ⟨rfl, rfl⟩
  go_wp2_with fail
  go_ret
  exact ⟨retI (by rw [HR.out]), 0, rfl⟩
theorem allows_ok (h : LmAt w b x) (hi : x.Inv) (now : Int) : Calls Tryz.prog 58 #[.pointer (some ⟨b, 0, none⟩), .int .i64 now] w fun e w' => e = .returned (.bool (x.allows now)) ∧ ∃ n, w' = w.drewN n := by
 have C := Lib.hid (check_ok h hi now)
 have HV : Hid (x.allows now = decide (x.check now = 0)) := Lib.hid rfl
 generalize x.allows now = R at *
 generalize x.check now = E at *
 clear h hi
 go_enter Tryz.func58, Tryz.ntmps58
 go_wp2_with fail
 refine (C.out).mono ?_
 rintro e w' ⟨rfl, n, rfl⟩
 go_wp2_with fail
 go_ret
 exact ⟨retB (by rw [HV.out]; first | rfl | (by_cases hE : E = 0 <;> simp [hE])), n, rfl⟩
theorem rcheck_ok (h : RLmAt w b x) (hi : x.Inv) (now : Int) : Calls Tryz.prog 129 #[.pointer (some ⟨b, 0, none⟩), .int .i64 now] w fun e w' => e = .returned (.int .i64 (x.check now)) ∧ ∃ n, w' = w.drewN n := by
 have E := Lib.hid (rearly_ok h hi now)
 have V := Lib.hid (rlvalid_ok h)
 have HV : Hid (x.check now = if timeB now = false then 14 else if (x.so && decide (now < x.last)) = true then 8 else if x.early now = true then 9 else 0) := Lib.hid rfl
 generalize x.check now = R at *
 generalize x.early now = eb at *
 obtain ⟨t, tau, so, tat, last⟩ := x
 have c0 : w.cell? ⟨b, 0, none⟩ = some (.bool true) := Blk.cell h 0
 have c1 : w.cell? ⟨b, 1, none⟩ = some (.int .i64 t) := Blk.cell h 1
 have c2 : w.cell? ⟨b, 2, none⟩ = some (.int .i64 tau) := Blk.cell h 2
 have c3 : w.cell? ⟨b, 3, none⟩ = some (.bool so) := Blk.cell h 3
 have c4 : w.cell? ⟨b, 4, none⟩ = some (.int .i64 tat) := Blk.cell h 4
 have c5 : w.cell? ⟨b, 5, none⟩ = some (.int .i64 last) := Blk.cell h 5
 clear h hi
 simp only at HV
 by_cases h0 : 0 ≤ now
 ·by_cases h1 : now ≤ 253402300799
  ·have tb : timeB now = true := timeB_iff.2 ⟨h0, h1⟩
   rw [tb] at HV
   clear tb
   by_cases h2 : now < last
   ·cases so
    ·have HR : Hid (R = if eb = true then 9 else 0) := Lib.hid (by rw [HV.out]; simp)
     clear HV
     cases eb
     all_goals
      go_enter Tryz.func129, Tryz.ntmps129
      go_wp2_with fail
      refine (V.out).mono ?_
      rintro e w' ⟨rfl, rfl⟩
      go_wp2_with fail
      refine (E.out).mono ?_
      rintro e w' ⟨rfl, n, rfl⟩
      go_wp2_with fail
      go_ret
      exact ⟨retI (by rw [HR.out]; rfl), n, rfl⟩
    ·have HR : Hid (R = 8) := Lib.hid (by rw [HV.out]; simp [h2])
     clear HV
     go_enter Tryz.func129, Tryz.ntmps129
     go_wp2_with fail
     refine (V.out).mono ?_
     rintro e w' ⟨rfl, rfl⟩
     go_wp2_with fail
     go_ret
     exact ⟨retI (by rw [HR.out]), 0, rfl⟩
   ·have HR : Hid (R = if eb = true then 9 else 0) := Lib.hid (by rw [HV.out]; simp [h2])
    clear HV
    cases so
    all_goals
     cases eb
     all_goals
      go_enter Tryz.func129, Tryz.ntmps129
      go_wp2_with fail
      refine (V.out).mono ?_
      rintro e w' ⟨rfl, rfl⟩
      go_wp2_with fail
      refine (E.out).mono ?_
      rintro e w' ⟨rfl, n, rfl⟩
      go_wp2_with fail
      go_ret
      exact ⟨retI (by rw [HR.out]; rfl), n, rfl⟩
  ·have tb : timeB now = false := by unfold timeB; rw [decide_eq_false h1, Bool.and_false]
   rw [tb] at HV
   have HR : Hid (R = 14) := Lib.hid (by rw [HV.out]; rfl)
   clear HV tb
   go_enter Tryz.func129, Tryz.ntmps129
   go_wp2_with fail
   refine (V.out).mono ?_
   rintro e w' ⟨rfl, rfl⟩
   go_wp2_with fail
   go_ret
   exact ⟨retI (by rw [HR.out]), 0, rfl⟩
 ·have tb : timeB now = false := by unfold timeB; rw [decide_eq_false h0, Bool.false_and]
  rw [tb] at HV
  have HR : Hid (R = 14) := Lib.hid (by rw [HV.out]; rfl)
  clear HV tb
  go_enter Tryz.func129, Tryz.ntmps129
  go_wp2_with fail
  refine (V.out).mono ?_
  rintro e w' ⟨rfl, rfl⟩
  go_wp2_with fail
  go_ret
  exact ⟨retI (by rw [HR.out]), 0, rfl⟩
theorem rallows_ok (h : RLmAt w b x) (hi : x.Inv) (now : Int) : Calls Tryz.prog 158 #[.pointer (some ⟨b, 0, none⟩), .int .i64 now] w fun e w' => e = .returned (.bool (x.allows now)) ∧ ∃ n, w' = w.drewN n := by
 have C := Lib.hid (rcheck_ok h hi now)
 have HV : Hid (x.allows now = decide (x.check now = 0)) := Lib.hid rfl
 generalize x.allows now = R at *
 generalize x.check now = E at *
 clear h hi
 go_enter Tryz.func158, Tryz.ntmps158
 go_wp2_with fail
 refine (C.out).mono ?_
 rintro e w' ⟨rfl, n, rfl⟩
 go_wp2_with fail
 go_ret
 exact ⟨retB (by rw [HV.out]; first | rfl | (by_cases hE : E = 0 <;> simp [hE])), n, rfl⟩
set_option maxRecDepth 8000 in
set_option maxHeartbeats 400000 in
theorem count_ok (h : LmAt w b x) (hi : x.Inv) (now : Int) (h0 : timeB now = true) : Calls Tryz.prog 116 #[.pointer (some ⟨b, 0, none⟩), .int .i64 now] w fun e w' => e = .returned (.tuple #[]) ∧ LmAt w' b (x.count now) ∧ w.grownBy w' (some b) := by
 have hs := hi.small
 have ht := timeB_iff.1 h0
 have hh := Lib.hid h
 obtain ⟨t, tau, so, tat, last⟩ := x
 have c0 : w.cell? ⟨b, 0, none⟩ = some (.bool so) := Blk.cell h 0
 have c1 : w.cell? ⟨b, 1, none⟩ = some (.int .i64 tat) := Blk.cell h 1
 have c2 : w.cell? ⟨b, 2, none⟩ = some (.int .i64 last) := Blk.cell h 2
 have c3 : w.cell? ⟨b, 3, none⟩ = some (.int .i64 t) := Blk.cell h 3
 have c4 : w.cell? ⟨b, 4, none⟩ = some (.int .i64 tau) := Blk.cell h 4
 have c5 : w.cell? ⟨b, 5, none⟩ = some (.bool true) := Blk.cell h 5
 have f0 : w.frozen? ⟨b, 0, none⟩ = false := Blk.frozen h 0
 have f1 : w.frozen? ⟨b, 1, none⟩ = false := Blk.frozen h 1
 have f2 : w.frozen? ⟨b, 2, none⟩ = false := Blk.frozen h 2
 have f3 : w.frozen? ⟨b, 3, none⟩ = false := Blk.frozen h 3
 have f4 : w.frozen? ⟨b, 4, none⟩ = false := Blk.frozen h 4
 have f5 : w.frozen? ⟨b, 5, none⟩ = false := Blk.frozen h 5
 clear h hi h0
 simp only at hs
 have hw : IntKind.i64.wrap (max now tat + t) = max now tat + t := IntWalk.i64_in _ (by omega)
 go_enter Tryz.func116, Tryz.ntmps116
 go_wp2_with fail
 go_still_tail 13, (by kernel_rfl)
 change wpList _ _ _ _ _ w.drew
 go_wp2_with fail
 go_end0
 refine ⟨rfl, ?_, ?_⟩
 ·have h1 := (((hh.out.drew).set_ 1 (.int .i64 (max now tat + t))).set_ 2 (.int .i64 now)).set_ 0 (.bool true)
  exact h1
 ·(repeat (first | (with_reducible exact only_refl _ _) | (with_reducible refine only_drew ?_) | (with_reducible refine only_setCell ?_ (.inl rfl) _)))
set_option maxHeartbeats 400000 in
theorem ltake_ok (h : LmAt w b x) (hi : x.Inv) (now : Int) : Calls Tryz.prog 49 #[.pointer (some ⟨b, 0, none⟩), .int .i64 now] w fun e w' => e = .returned (.int .i64 (x.take now).1) ∧ LmAt w' b (x.take now).2 ∧ w.grownBy w' (some b) := by
 have C := Lib.hid (check_ok h hi now)
 have hh := Lib.hid h
 by_cases hc : x.check now = 0
 ·have HT : Hid (x.take now = (0, x.count now)) := Lib.hid (by unfold Lm.take; rw [if_pos hc])
  rw [hc] at C
  have CC := Lib.hid (fun n => count_ok (w := w.drewN n) (hh.out.drewN n) hi now (Lm.check_zero hc).1)
  clear h hi hc
  go_enter Tryz.func49, Tryz.ntmps49
  go_wp2_with fail
  refine (C.out).mono ?_
  rintro e w' ⟨rfl, n, rfl⟩
  go_wp2_with fail
  refine (CC.out n).mono ?_
  rintro e w2 ⟨rfl, h2, h3⟩
  have H2 := Lib.hid h2
  have H3 := Lib.hid h3
  clear h2 h3
  go_wp2_with fail
  go_ret
  rw [HT.out]
  exact ⟨rfl, H2.out, only_trans (only_drewN (only_refl w _) n) H3.out⟩
 ·have HT : Hid (x.take now = (x.check now, x)) := Lib.hid (by unfold Lm.take; rw [if_neg hc])
  generalize x.check now = E at *
  have q1 : (E == 0) = false := by rw [beq_eq_false_iff_ne]; exact hc
  have q2 : (E != 0) = true := by rw [bne, q1]; rfl
  clear h hi hc
  go_enter Tryz.func49, Tryz.ntmps49
  go_wp2_with fail
  refine (C.out).mono ?_
  rintro e w' ⟨rfl, n, rfl⟩
  go_wp2_with fail
  go_ret
  rw [HT.out]
  exact ⟨rfl, hh.out.drewN n, only_drewN (only_refl w _) n⟩
end
end Go.Proofs.YtpgckpafjiojfaaGreatDoor.AD
