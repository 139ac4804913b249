/- Makers of the iterators; results that lie in cells; contract of match.Ever. -/
import Derived.Test.YtihadbkjfocdoaaGreatDoorMatV
import Derived.Test.YtihadbkjfocdoaaGreatDoorMChk
namespace Go.Proofs.YtihadbkjfocdoaaGreatDoor.BW
open Go.RowKit BM Go.Shelf MC RK
open BK hiding ret_bool ret_i64

attribute [local go_sem] Oper.semAt_some

theorem days_mk (x : Ex) (a b : Int) (w : World) : Calls Tryz.prog 96 #[.agg (exV x), .int .i64 a, .int .i64 b] w fun e w' => e = .returned (.func (.func 109) #[] #[.pointer (some ⟨w.heap.size, 0, none⟩), .pointer (some ⟨w.heap.size + 1, 0, none⟩), .pointer (some ⟨w.heap.size + 2, 0, none⟩)]) ∧
    w' = ((w.alloc (.cells (exV x) 47)).alloc (.cells #[.int .i64 a] 2)).alloc (.cells #[.int .i64 b] 2) := by
  obtain ⟨V, hV⟩ : ∃ V, V = exV x := ⟨_, rfl⟩
  rw [← hV]
  clear hV
  go_enter Tryz.func96, Tryz.ntmps96
  go_wp2
  go_ret
  exact ⟨rfl, rfl⟩
theorem all_mk (x : Ex) (z a b : Int) (w : World) : Calls Tryz.prog 94 #[.agg (exV x), .int .i64 z, .int .i64 a, .int .i64 b] w fun e w' => e = .returned (.func (.func 108) #[] #[.pointer (some ⟨w.heap.size + 1, 0, none⟩), .pointer (some ⟨w.heap.size + 2, 0, none⟩), .pointer (some ⟨w.heap.size + 3, 0, none⟩), .pointer (some ⟨w.heap.size, 0, none⟩)]) ∧
    w' = (((w.alloc (.cells (exV x) 47)).alloc (.cells #[.int .i64 z] 3)).alloc (.cells #[.int .i64 a] 2)).alloc (.cells #[.int .i64 b] 2) := by
  obtain ⟨V, hV⟩ : ∃ V, V = exV x := ⟨_, rfl⟩
  rw [← hV]
  clear hV
  go_enter Tryz.func94, Tryz.ntmps94
  go_wp2
  go_ret
  exact ⟨rfl, rfl⟩

theorem run_loadVar_one {P : Program} {ty : TypeId} (h : ∀ w, (isAgg ty).run P w = .ok false w) (g : Nat) (t : TypeId) (v : Value) (w : World) (hb : Blk w g t #[v]) : (loadVar ty ⟨g, 0, none⟩).run P w = .ok v w := by
  have hc : w.cell? ⟨g, 0, none⟩ = some v := hb.cell 0
  simp [loadVar, h, hc, go_sem]
theorem results_cell3 {fn : Func} {P : Program} {p q r : Tmp} {tp tq tr : TypeId} (h : fn.results = #[.cell p tp, .cell q tq, .cell r tr]) (tmps : Array Value) (w : World) (a b c : Addr) (v u t : Value) (hp : tmps.getD p undef = .pointer (some a)) (hq : tmps.getD q undef = .pointer (some b)) (hr : tmps.getD r undef = .pointer (some c))
    (la : (loadVar tp a).run P w = .ok v w) (lb : (loadVar tq b).run P w = .ok u w) (lc : (loadVar tr c).run P w = .ok t w) : (results fn tmps).run P w = .ok (.tuple #[v, u, t]) w := by
  have hp' : tmps[p]?.getD undef = .pointer (some a) := by simpa using hp
  have hq' : tmps[q]?.getD undef = .pointer (some b) := by simpa using hq
  have hr' : tmps[r]?.getD undef = .pointer (some c) := by simpa using hr
  simp [results, h, hp', hq', hr', asAddr, la, lb, lc]
theorem below_steps {B C : Nat} {w X Y : World} (h : Below B w X) (hs : RK.Steps (fun _ => False) C X Y) (hB : B ≤ C) (hw : B ≤ w.heap.size) : Below B w Y :=
  h.trans ⟨hs.os, hs.tape, hs.output, hs.size, fun k hk => by
    have hlt : k < X.heap.size := Nat.lt_of_lt_of_le hk (Nat.le_trans hw h.size)
    rw [hs.same k X.heap[k] (Array.getElem?_eq_getElem hlt) (fun h => h) (fun h => by omega), Array.getElem?_eq_getElem hlt]⟩
theorem days_seq (n : Nat) (x : Ex) (hx : U64s x) (D : Nat → Nat) (N : Nat) (a b st : Int) (HW : Hid (Walk D N a b st)) (bx bf bt : Nat) (w : World)
    (hBx : Blk w bx 47 (exV x)) (hBf : Blk w bf 2 #[.int .i64 a]) (hBt : Blk w bt 2 #[.int .i64 b]) :
    SeqL Fence.wide n Tryz.prog 109 #[.pointer (some ⟨bx, 0, none⟩), .pointer (some ⟨bf, 0, none⟩), .pointer (some ⟨bt, 0, none⟩)] (fun d : Nat => #[Value.int .i64 (d : Nat)]) (fun _ => False) (KeepS (KD bx bf bt (w.heap.size + 2))) (daysL x D (N + 1)) 1 w :=
  fun l J Jx W hsz hW hJ _ hY h0 => days_in n x hx D N a b st HW bx bf bt W.heap.size l J Jx W (hBx.below hW hBx.lt) (hBf.below hW hBf.lt) (hBt.below hW hBt.lt) hJ
    (fun pre d W1 hj hp hs => by rw [hsz]; exact yieldAt_mono (hY pre d W1 hj hp (by omega)) (fun e w' h => h.imp id (fun h => ⟨h.1, h.2.1⟩))) h0
end Go.Proofs.YtihadbkjfocdoaaGreatDoor.BW
