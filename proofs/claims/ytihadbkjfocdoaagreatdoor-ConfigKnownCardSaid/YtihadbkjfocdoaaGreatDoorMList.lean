/- Contract of match.List. -/
import Derived.Test.YtihadbkjfocdoaaGreatDoorMNext
import Derived.Test.YtihadbkjfocdoaaGreatDoorMBits
import Derived.Maps.AppendAt
namespace Go.Proofs.YtihadbkjfocdoaaGreatDoor.BW
open Go.RowKit BM Go.Shelf MC RK
open BK hiding ret_bool ret_i64

attribute [local go_sem] Oper.semAt_some

def tcell (t : Int) : Value := .int .i64 t
theorem ownsRow_mono {B C : Nat} {w : World} {e : TypeId} {size k : Nat} {v : Value} {xs : List Value} (h : w.ownsRow C e size v k xs) (hB : B ≤ C) : w.ownsRow B e size v k xs :=
  ⟨h.1, h.2.imp id fun ⟨g, cap, cur, h1, h2, h3⟩ => ⟨g, cap, cur, h1, Nat.le_trans hB h2, h3⟩⟩
theorem own_ge {B : Nat} {w : World} {e : TypeId} {size k : Nat} {v : Value} {xs : List Value} (h : w.ownsRow B e size v k xs) {j : Nat} (hj : j < B) : some j ≠ v.ownBlock := by
  rcases h.2 with ⟨rfl, _⟩ | ⟨g, cap, cur, rfl, hb, _⟩
  · simp [Value.ownBlock]
  · intro e
    have : j = g := by simpa [Value.ownBlock] using e
    omega
theorem own_alloc {B : Nat} {w : World} {e : TypeId} {size k : Nat} {v : Value} {xs : List Value} (h : w.ownsRow B e size v k xs) (o : Obj) : (w.alloc o).ownsRow B e size v k xs := World.ownsRow.alloc h o
/-- Behind an append to a row that lies above, and the store of its head below. -/
theorem appended_low {W w1 : World} {pb base : Nat} {t e : TypeId} {size : Nat} {v v' : Value} {k m : Nat} {xs ys : List Value} {tmp : Obj}
    (hv : Blk W pb t #[v]) (hpb : pb < base) (hrow : W.ownsRow base e size v k xs) (hn : base ≤ W.heap.size) (hown' : w1.ownsRow base e size v' m ys) (hgrow : (W.alloc tmp).grownBy w1 v.ownBlock) :
    Blk w1 pb t #[v] ∧ Blk (w1.setCell ⟨pb, 0, none⟩ v') pb t #[v'] ∧ (w1.setCell ⟨pb, 0, none⟩ v').ownsRow base e size v' m ys ∧ KeepsOthers W (w1.setCell ⟨pb, 0, none⟩ v') ∧ (∀ j, j < base → j ≠ pb → (w1.setCell ⟨pb, 0, none⟩ v').heap[j]? = W.heap[j]?) ∧ ∀ B0, B0 ≤ pb → Below B0 W (w1.setCell ⟨pb, 0, none⟩ v') := by
  have hv1 : Blk w1 pb t #[v] := (hgrow.block pb (by simp; have := hv.lt; omega) (own_ge hrow hpb)).trans (hv.alloc tmp)
  refine ⟨hv1, hv1.set_ 0 v', hown'.kept (grownBy_setCell' w1 pb v') (.inr (own_ge hown' hpb).symm), ?_, fun j hj hne => ?_, fun B0 hB0 => ?_⟩
  · refine ((KeepsOthers.alloc W tmp).trans (KeepsOthers.of_grownBy hgrow fun j o ej hj => ?_)).trans (KeepsOthers.setCell _ _ _)
    rcases (hrow.alloc tmp).2 with ⟨rfl, _⟩ | ⟨g, cap, cur, rfl, _, hgb, _⟩
    · simp [Value.ownBlock] at ej
    · obtain rfl : g = j := by simpa [Value.ownBlock] using ej
      rw [hgb] at hj; cases hj; rfl
  · rw [Below.heap_setCell w1 _ v' j hne, hgrow.block j (by simp; omega) (own_ge hrow hj), Below.heap_alloc W tmp j (by omega)]
  · refine (((Below.refl B0 W).alloc (by omega) tmp).grown hgrow (by simp; omega) fun j ej => ?_).setCell (p := ⟨pb, 0, none⟩) hB0 v'
    rcases Nat.lt_or_ge j base with h | h
    · exact absurd ej.symm (own_ge hrow h)
    · omega
end Go.Proofs.YtihadbkjfocdoaaGreatDoor.BW
