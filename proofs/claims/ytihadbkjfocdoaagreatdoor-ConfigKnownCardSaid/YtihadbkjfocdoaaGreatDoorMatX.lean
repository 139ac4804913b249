/- Contract of match.Ever. -/
import Derived.Test.YtihadbkjfocdoaaGreatDoorMatW
namespace Go.Proofs.YtihadbkjfocdoaaGreatDoor.BW
open Go.RowKit BM Go.Shelf MC RK
open BK hiding ret_bool ret_i64

attribute [local go_sem] Oper.semAt_some

theorem keepsFrom_set {B : Nat} {X Y : World} (h : KeepsFrom B X Y) {b i : Nat} (hb : b < B) (u : Value) : KeepsFrom B X (Y.setCell ⟨b, i, none⟩ u) :=
  h.trans ⟨(KeepsWalks.setCell Y _ u).size, fun k o hB hk _ => (Below.heap_setCell Y _ u k (by simp; omega)).trans hk⟩
theorem blk_put {X : World} {g D : Nat} {t : TypeId} {cs : Array Value} {o : Obj} (h : Blk X g t cs) (hD : g ≠ D) : Blk (X.putObj D o) g t cs := (World.putObj_heap_other hD).trans h
theorem below_put {B D : Nat} {w X : World} {o : Obj} (h : Below B w X) (hD : B ≤ D) : Below B w (X.putObj D o) := h.trans ⟨rfl, rfl, rfl, by simp, fun k hk => World.putObj_heap_other (by omega)⟩
theorem heap_set {X : World} {D b i : Nat} {o : Option Obj} (h : X.heap[D]? = o) (hb : D ≠ b) (u : Value) : (X.setCell ⟨b, i, none⟩ u).heap[D]? = o := (Below.heap_setCell X _ u D hb).trans h
end Go.Proofs.YtihadbkjfocdoaaGreatDoor.BW
