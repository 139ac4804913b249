/- The iterator of a set: its contract. -/
import Derived.Test.YtcgnnmpgdnajnaaDoorBitsListM
import Derived.Test.YtcgnnmpgdnajnaaDoorSeqOwn
import Derived.RangeFuncBox
import Derived.RangeFuncLeaves
import Derived.WalkKit
import Derived.OwnWalkIn
import Derived.TacticsInMore
import Derived.LoopNIn
import Derived.LoopIn
namespace Go.Proofs.YtcgnnmpgdnajnaaDoor.BW
open Go.RowKit BM RK

attribute [local go_sem] Oper.semAt_some

def valOf : Option Value → Nat
  | some (.int _ v) => v.toNat
  | _ => 0
/-- What a round must keep for the iterator: what lies below n₀, and its box. -/
def KeepsBox (n₀ B : Nat) (X Y : World) : Prop := Below n₀ X Y ∧ Y.heap[B]? = X.heap[B]?

set_option maxHeartbeats 1000000 in
theorem all1_in (n s0 : Nat) (hs0 : s0 < 18446744073709551616) (l Bn n₀ : Nat) (h0n : 0 < n₀) (hBn : n₀ ≤ Bn) (J Jx : List Nat → World → Prop) (B0 : Nat)
    (hJ : Closed (· = Bn) B0 J)
    (hY : ∀ pre x W, J pre W → pre.length < (mem s0).length → YieldAt Fence.wide (n - 1) Tryd.prog l #[.int .i64 (x : Nat)] W fun e W' =>
      (e = .returned (.bool true) ∧ J (pre ++ [x]) W' ∧ KeepsBox n₀ Bn W W') ∨ (e = .returned (.bool false) ∧ Jx (pre ++ [x]) W'))
    (W : World) (hT : Tab W) (hbox : Boxed W Bn 22 (.int .u64 s0)) (hst : J [] W) :
    CallsIn Fence.wide n Tryd.prog 41 #[.func (.yield l) #[] #[], .pointer (some ⟨Bn, 0, none⟩)] W fun e W' => (∃ v, e = .returned v) ∧
      ((∃ ys, ys = mem s0 ∧ J ys W') ∨ (∃ pre, True ∧ Jx pre W')) := by
  refine callsIn_of_wp Tryd.func41 rfl trivial ?_ rfl
  simp only [Tryd.ntmps41, List.size_toArray, List.length_cons, List.length_nil, Nat.reduceAdd, Nat.reduceSub, Array.replicate_succ, Array.replicate_zero, List.push_toArray, List.append_toArray, List.nil_append, List.cons_append]
  gi_wp2
  gi_loopw [] (fun wr => ∃ (pre : List Nat) (s : Nat), s < 18446744073709551616 ∧ Boxed wr Bn 22 (.int .u64 s) ∧ mem s0 = pre ++ mem s ∧ J pre wr ∧ Tab wr) (fun wr => valOf (wr.cell? ⟨Bn, 0, none⟩))
  case atStart => exact ⟨[], s0, hs0, hbox, by simp, hst, hT⟩
  case round =>
    obtain ⟨pre, s, hs, hb, hx, hJs, hTr⟩ := hrel
    have hc := hb.cell
    have hf := hb.frozen
    have HX := Lib.hid hx
    have HT := Lib.hid hTr
    clear hx hTr hT
    by_cases h0 : s = 0
    · subst h0
      gi_wp2
      go_end0
      exact ⟨⟨_, rfl⟩, .inl ⟨pre, by rw [HX.out, mem_zero]; simp, hJs⟩⟩
    · obtain ⟨c1, c2, c3⟩ := ctz_spec s h0 hs
      have hz : ((s : Int) != 0) = true := by rw [bne_iff_ne]; omega
      have CZ := Lib.hid (tz_ok s hs h0 wr HT.out)
      have HP := Lib.hid (and_pred c2 c3)
      have HM := Lib.hid (mem_next c1 c2 c3)
      generalize Lib.ctz 64 s = lo at *
      obtain ⟨fn, tmps, assign, body, hy, hR⟩ := hY pre lo wr hJs (by rw [HX.out, HM.out]; simp)
      have hPW := pred_word s hs h0
      rw [HP.out] at hPW
      have hcl := cut_lt (v := lo) hs
      have hcs : cut s lo < s := by rw [← HP.out]; exact Nat.lt_of_le_of_lt Nat.and_le_right (by omega)
      clear c2 c3 h0
      gi_wp2_with fail
      refine ⟨trivial, fun h => by simp [Fence.wide] at h, (callsIn_wide.2 CZ.out).mono ?_⟩
      rintro e w' ⟨rfl, rfl⟩
      gi_wp2_with fail
      refine ⟨fun h => by simp [Fence.wide] at h, hR.mono ?_⟩
      rintro e W3 (⟨rfl, hJ3, hk3⟩ | ⟨rfl, hJx3⟩)
      · have hb3 : Boxed W3 Bn 22 (.int .u64 s) := hk3.2.trans hb
        have hc3 := hb3.cell
        have hf3 := hb3.frozen
        gi_wp2
        go_roundw
        case rel =>
          refine ⟨pre ++ [lo], cut s lo, hcl, hb3.set _, by rw [HX.out, HM.out]; simp, hJ _ _ _ hJ3 (Steps.setCell _ _ _ rfl), ?_⟩
          exact HT.out.below (hk3.1.setCell (p := ⟨Bn, 0, none⟩) hBn _) h0n
        case measure =>
          rw [(hb3.set (.int .u64 ((cut s lo : Nat) : Int))).cell, hc]
          simpa [valOf] using hcs
      · gi_wp2
        refine bodyPost_ret (results_none rfl _ _ _) rfl ?_
        exact ⟨⟨_, rfl⟩, .inr ⟨pre ++ [lo], trivial, hJx3⟩⟩
end Go.Proofs.YtcgnnmpgdnajnaaDoor.BW
