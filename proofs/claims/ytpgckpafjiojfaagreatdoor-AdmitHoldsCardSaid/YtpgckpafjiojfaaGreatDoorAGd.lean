/- Contracts of the limiters, second part: Next, Tat, the reference's Take, making and copying. -/
import Derived.Test.YtpgckpafjiojfaaGreatDoorAGc
namespace Go.Proofs.YtpgckpafjiojfaaGreatDoor.AD
open Go Go.RowKit
open BK (Blk only_refl only_drew only_drewN only_setCell only_trans only_of_below only_alloc below_drewN)
theorem drewN_drewN (w : World) (n m : Nat) : (w.drewN n).drewN m = w.drewN (n + m) := by
  unfold World.drewN
  simp [Nat.add_assoc]
section
variable {w : World} {b : Nat} {x : Lm}
set_option maxHeartbeats 400000 in
theorem next_ok (h : LmAt w b x) (hi : x.Inv) (now : Int) : Calls Tryz.prog 63 #[.pointer (some ⟨b, 0, none⟩), .int .i64 now] w fun e w' => e = .returned (.tuple #[.int .i64 (x.next now).1, .int .i64 (x.next now).2]) ∧ ∃ n, w' = w.drewN n := by
  have E := Lib.hid (early_ok h hi (max now x.last))
  have T := Lib.hid (istime_ok now w)
  have HV : Hid (x.next now = if timeB now = false then (0, 14) else (if x.so = false then now else if x.early (max now x.last) = true then x.tat - x.tau else max now x.last, 0)) := Lib.hid rfl
  have hs := hi.small
  have hz : x.so = false → x.early now = false := by
    intro h
    unfold Lm.early
    rw [h]
    simp
  generalize x.next now = R at *
  generalize x.early (max now x.last) = eb at *
  obtain ⟨t, tau, so, tat, last⟩ := x
  have c0 : w.cell? ⟨b, 0, none⟩ = some (.bool so) := Blk.cell h 0
  have c1 : w.cell? ⟨b, 1, none⟩ = some (.int .i64 tat) := Blk.cell h 1
  have c2 : w.cell? ⟨b, 2, none⟩ = some (.int .i64 last) := Blk.cell h 2
  have c3 : w.cell? ⟨b, 3, none⟩ = some (.int .i64 t) := Blk.cell h 3
  have c4 : w.cell? ⟨b, 4, none⟩ = some (.int .i64 tau) := Blk.cell h 4
  have c5 : w.cell? ⟨b, 5, none⟩ = some (.bool true) := Blk.cell h 5
  clear h hi
  simp only at HV E hs hz
  have hw : IntKind.i64.wrap (tat - tau) = tat - tau := IntWalk.i64_in _ (by omega)
  by_cases h0 : 0 ≤ now
  · by_cases h1 : now ≤ 253402300799
    · have tb : timeB now = true := timeB_iff.2 ⟨h0, h1⟩
      rw [tb] at T HV
      clear tb
      cases so
      · have HR : Hid (R = (now, 0)) := Lib.hid (by rw [HV.out]; simp)
        clear HV
        go_enter Tryz.func63, Tryz.ntmps63
        go_wp2_with fail
        refine (T.out).mono ?_
        rintro e w' ⟨rfl, rfl⟩
        go_wp2_with fail
        go_ret2
        exact ⟨retII (by rw [HR.out]) (by rw [HR.out]), 0, rfl⟩
      · have HR : Hid (R = (if eb = true then tat - tau else max now last, 0)) := Lib.hid (by rw [HV.out]; simp)
        clear HV
        cases eb
        · go_enter Tryz.func63, Tryz.ntmps63
          go_wp2_with fail
          refine (T.out).mono ?_
          rintro e w' ⟨rfl, rfl⟩
          go_wp2_with fail
          refine (E.out).mono ?_
          rintro e w' ⟨rfl, n, rfl⟩
          go_wp2_with fail
          go_ret2
          exact ⟨retII (by rw [HR.out]; rfl) (by rw [HR.out]), n, rfl⟩
        · go_enter Tryz.func63, Tryz.ntmps63
          go_wp2_with fail
          refine (T.out).mono ?_
          rintro e w' ⟨rfl, rfl⟩
          go_wp2_with fail
          refine (E.out).mono ?_
          rintro e w' ⟨rfl, n, rfl⟩
          go_wp2_with fail
          go_quiet (fail)
          go_wp2_with fail
          go_ret2
          exact ⟨retII (by rw [HR.out]; rfl) (by rw [HR.out]), _, drewN_drewN _ _ _⟩
    · have tb : timeB now = false := by unfold timeB; rw [decide_eq_false h1, Bool.and_false]
      rw [tb] at T HV
      have HR : Hid (R = (0, 14)) := Lib.hid (by rw [HV.out]; rfl)
      clear HV tb
      go_enter Tryz.func63, Tryz.ntmps63
      go_wp2_with fail
      refine (T.out).mono ?_
      rintro e w' ⟨rfl, rfl⟩
      go_wp2_with fail
      go_ret2
      exact ⟨retII (by rw [HR.out]) (by rw [HR.out]), 0, rfl⟩
  · have tb : timeB now = false := by unfold timeB; rw [decide_eq_false h0, Bool.false_and]
    rw [tb] at T HV
    have HR : Hid (R = (0, 14)) := Lib.hid (by rw [HV.out]; rfl)
    clear HV tb
    go_enter Tryz.func63, Tryz.ntmps63
    go_wp2_with fail
    refine (T.out).mono ?_
    rintro e w' ⟨rfl, rfl⟩
    go_wp2_with fail
    go_ret2
    exact ⟨retII (by rw [HR.out]) (by rw [HR.out]), 0, rfl⟩
theorem retIB {a b : Int} {c d : Bool} (h : a = b) (h' : c = d) : Ending.returned (.tuple #[.int .i64 a, .bool c]) = .returned (.tuple #[.int .i64 b, .bool d]) := by rw [h, h']
end
end Go.Proofs.YtpgckpafjiojfaaGreatDoor.AD
