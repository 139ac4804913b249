/- A script's steps, in memory. -/
import Derived.Test.YtfeblkoconjakaaBrkFailW
import Derived.Laws.BitsAllLaws
namespace Go.Proofs.Ytfeblkoconjakaa.BK
open Go Go.RowKit

structure St where
  what : Int
  ok : Bool
  at_ : Int
def StepsAt (w : World) (a : Option Addr) (xs : List St) : Prop := ∀ k (h : k < xs.length), ∃ b off, a = some ⟨b, off, none⟩ ∧ b < w.heap.size ∧
  w.cell? ⟨b, off + k * 3, none⟩ = some (.int .i64 xs[k].what) ∧ w.cell? ⟨b, off + k * 3 + 1, none⟩ = some (.bool xs[k].ok) ∧ w.cell? ⟨b, off + k * 3 + 2, none⟩ = some (.int .i64 xs[k].at_)
/-- The same, below a block number. -/
theorem StepsAt.get {w wr : World} {B : Nat} {a : Option Addr} {xs : List St} (hA : StepsAt w a xs) (hb : Below B w wr) (hB : w.heap.size ≤ B) {k : Nat} (hk : k < xs.length) :
    ∃ c off, a = some ⟨c, off, none⟩ ∧ wr.cell? ⟨c, off + k * 3, none⟩ = some (.int .i64 xs[k].what) ∧ wr.cell? ⟨c, off + k * 3 + 1, none⟩ = some (.bool xs[k].ok) ∧ wr.cell? ⟨c, off + k * 3 + 2, none⟩ = some (.int .i64 xs[k].at_) := by
  obtain ⟨c, off, e, hc, h0, h1, h2⟩ := hA k hk
  have hc' : c < B := by omega
  exact ⟨c, off, e, by rw [hb.cell (p := ⟨c, off + k * 3, none⟩) hc']; exact h0, by rw [hb.cell (p := ⟨c, off + k * 3 + 1, none⟩) hc']; exact h1, by rw [hb.cell (p := ⟨c, off + k * 3 + 2, none⟩) hc']; exact h2⟩
theorem StepsAt.again {w wr : World} {B c off : Nat} {xs : List St} (hA : StepsAt w (some ⟨c, off, none⟩) xs) (hb : Below B w wr) (hB : w.heap.size ≤ B) {k : Nat} (hk : k < xs.length) :
    wr.cell? ⟨c, off + k * 3, none⟩ = some (.int .i64 xs[k].what) ∧ wr.cell? ⟨c, off + k * 3 + 1, none⟩ = some (.bool xs[k].ok) ∧ wr.cell? ⟨c, off + k * 3 + 2, none⟩ = some (.int .i64 xs[k].at_) := by
  obtain ⟨c', off', e, h⟩ := hA.get hb hB hk
  obtain ⟨rfl, rfl⟩ : c = c' ∧ off = off' := by simpa using e
  exact h
theorem StepsAt.alloc {w : World} {a : Option Addr} {xs : List St} (h : StepsAt w a xs) (o : Obj) : StepsAt (w.alloc o) a xs := by
  intro k hk
  obtain ⟨c, off, e, hc, h0, h1, h2⟩ := h k hk
  exact ⟨c, off, e, by simp; omega, by rw [World.cell?_alloc_lt _ _ _ hc]; exact h0, by rw [World.cell?_alloc_lt _ _ _ hc]; exact h1, by rw [World.cell?_alloc_lt _ _ _ hc]; exact h2⟩
theorem and_low (a : Int) : ∃ v : Int, bits .and .i64 a 1023 = v ∧ 0 ≤ v ∧ v ≤ 1023 := by
  refine ⟨_, rfl, ?_⟩
  show 0 ≤ IntKind.i64.wrap ((BitVec.ofInt 64 a &&& BitVec.ofInt 64 1023).toNat : Int) ∧ IntKind.i64.wrap ((BitVec.ofInt 64 a &&& BitVec.ofInt 64 1023).toNat : Int) ≤ 1023
  rw [BitVec.toNat_and]
  have h : (BitVec.ofInt 64 a).toNat &&& (BitVec.ofInt 64 1023).toNat ≤ 1023 := Nat.and_le_right
  rw [IntWalk.i64_in _ (by omega)]
  omega
end Go.Proofs.Ytfeblkoconjakaa.BK
