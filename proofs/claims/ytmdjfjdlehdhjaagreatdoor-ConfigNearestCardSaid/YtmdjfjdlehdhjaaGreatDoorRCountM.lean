/- What the reference's Count knows of the seconds of a span. -/
import Derived.Test.YtmdjfjdlehdhjaaGreatDoorREver
import Derived.Test.YtmdjfjdlehdhjaaGreatDoorMCount
namespace Go.Proofs.YtmdjfjdlehdhjaaGreatDoor.BW
open Go.RowKit BM Go.Shelf MC RK
open BK hiding ret_bool ret_i64

/-- Up to where the seconds are counted, ahead of a day. -/
def eN (lo hi n : Nat) : Nat := max lo (min (n * 86400) (hi + 1))
theorem eN_start {lo hi : Nat} (h : lo ≤ hi) : eN lo hi (lo / 86400) = lo := by unfold eN; omega
theorem eN_end {lo hi n : Nat} (h : lo ≤ hi) (hn : hi < n * 86400) : eN lo hi n = hi + 1 := by unfold eN; omega
theorem eN_le {lo hi n : Nat} (h : lo ≤ hi) : eN lo hi n ≤ hi + 1 := by unfold eN; omega
theorem ct_skip {x : Ex} {lo hi n : Nat} (h : lo ≤ hi) (hn : lo / 86400 ≤ n) (hh : n * 86400 ≤ hi) (hm : MC.M x n = false) : cnt (T x) (eN lo hi (n + 1)) = cnt (T x) (eN lo hi n) := by
  have e1 : eN lo hi n = n * 86400 + (lo - n * 86400) := by unfold eN; omega
  have e2 : eN lo hi (n + 1) = n * 86400 + min 86400 (hi + 1 - n * 86400) := by unfold eN; omega
  rw [e1, e2, cnt_T_day _ _ _ (by omega), cnt_T_day _ _ _ (by omega), hm]
  rfl
theorem ct_day {x : Ex} {lo hi n : Nat} (h : lo ≤ hi) (hn : lo / 86400 ≤ n) (hh : n * 86400 ≤ hi) (hm : MC.M x n = true) : cnt (T x) (eN lo hi (n + 1)) + cnt (clk x) (lo - n * 86400) = cnt (T x) (eN lo hi n) + cnt (clk x) (min 86400 (hi + 1 - n * 86400)) := by
  have e1 : eN lo hi n = n * 86400 + (lo - n * 86400) := by unfold eN; omega
  have e2 : eN lo hi (n + 1) = n * 86400 + min 86400 (hi + 1 - n * 86400) := by unfold eN; omega
  rw [e1, e2, cnt_T_day _ _ _ (by omega), cnt_T_day _ _ _ (by omega), hm]
  simp only [if_true]
  omega
theorem clk_all {x : Ex} (hok : x.Ok) (h24 : x.h < 2 ^ 24) : cnt (clk x) 86400 = (mem x.h).length * (mem x.mi).length * (mem x.s).length := by
  rw [clk_count, mem60 _ hok.s60, mem60 _ hok.mi60]
  have hf : x.h.testBit (86400 / 3600) = false := Nat.testBit_lt_two_pow (Nat.lt_of_lt_of_le h24 (Nat.pow_le_pow_right (by decide) (by decide)))
  have hm : (mem x.h).length = cnt x.h.testBit 24 := by
    unfold mem
    rw [mem_cnt _ 64, cnt_cut _ 24 64 (by omega)]
    intro i h1 h2
    exact Nat.testBit_lt_two_pow (Nat.lt_of_lt_of_le h24 (Nat.pow_le_pow_right (by decide) h1))
  rw [hf, hm]
  simp [Nat.mul_assoc]
theorem clk_succ (x : Ex) (s : Nat) : cnt (clk x) (s + 1) = cnt (clk x) s + if clk x s then 1 else 0 := rfl
def dayOf (v : Value) (w : World) : Nat := match v with
  | .pointer (some a) => match w.cell? a with
    | some (.int _ k) => k.toNat
    | _ => 0
  | _ => 0
theorem DayI.dayOf {w : World} {x : Ex} {b d n : Nat} {W : World} (h : DayI w x b d n W) : dayOf (.pointer (some ⟨d, 0, none⟩)) W = n := by
  unfold BW.dayOf
  have := h.dcells.1
  simp [this]
theorem DayI.clock {w : World} {x : Ex} {b d n : Nat} {W : World} (hx : U64s x) {s : Nat} (hs : s < 86400) (h : DayI w x b d n W) : Calls Tryz.prog 125 #[.agg #[.int .u64 x.s, .int .u64 x.mi, .int .u64 x.h, .int .u64 x.d, .int .u64 x.mo, .int .u64 x.w, .bool x.ad, .bool x.aw], .int .i64 s] W fun e W' =>
    e = .returned (.bool (clk x s)) ∧ DayI w x b d n W' := (rclock_ok x hx s hs W).mono fun _ _ ⟨h1, h2⟩ => ⟨h1, h.next h2⟩
/-- The day is copied into a block of its own. -/
theorem DayI.copy {w : World} {x : Ex} {b d n : Nat} {W : World} (h : DayI w x b d n W) : DayI w x b W.heap.size n (W.alloc (.cells (dtV n) 186)) :=
  ⟨h.xb.alloc _, Blk.new _ _ _, h.below.alloc h.below.size _⟩
end Go.Proofs.YtmdjfjdlehdhjaaGreatDoor.BW
