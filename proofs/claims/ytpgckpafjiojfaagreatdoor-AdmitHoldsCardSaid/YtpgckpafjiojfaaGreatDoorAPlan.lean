/- Contracts of the reference's schedules with a period. Contracts of the reference's Is, Next and Count of schedules with a period: they answer as the layer every does. Contract of the reference's Count of schedules with a period. The sort of the borders of spans. Contract of blackout.borders. The iterator of the borders: its contract. A range over an iterator whose rounds lay the loop's variable in a new block. The iterator of the borders as such a sequence. Contract of blackout.join. Contracts of blackout.both, Union, Meet, Normal and Free, for valid spans. The iterator of a plan's times: its contract. Contract of plan.Next. Contract of plan.List. Contract of plan.Count. Contracts of the reference's Check of plans, and of check. Contracts of the reference's check and Is. Contracts of the reference's next and Next. Contract of the reference's List. Contracts of the reference's count and Count. Contracts of plan.Due and the reference's Due. The chapter's examples, plainly. Contracts of ever, daily, ints and works: the chapter's examples hold. A plan in a box of the caller's, through calls. Contracts of the copies of plans. Contracts of the comparisons of plans. -/
import Derived.Test.YtpgckpafjiojfaaGreatDoorPEv
import Derived.Test.YtpgckpafjiojfaaGreatDoorPSp
import Derived.Test.YtpgckpafjiojfaaGreatDoorAMatch
import Derived.Deep.RegionHeld3
import Derived.Test.YtpgckpafjiojfaaGreatDoorAMat
import Derived.StillTailTactics
import Derived.Laws.EntriesVeiled
import Derived.Test.YtpgckpafjiojfaaGreatDoorPFj
import Derived.Test.YtpgckpafjiojfaaGreatDoorMTimes
import Derived.Lib.SliceRun
namespace Go.Proofs.YtpgckpafjiojfaaGreatDoor.BW
open Go.RowKit BM Go.Shelf MC
open BK hiding ret_bool ret_i64

end Go.Proofs.YtpgckpafjiojfaaGreatDoor.BW
namespace Go.Proofs.YtpgckpafjiojfaaGreatDoor.BW
open Go.RowKit BM Go.Shelf MC
open BK hiding ret_bool ret_i64

theorem Ev.Ok.before_mono {e : Ev} (h : e.Ok) {a b : Int} (hab : a ≤ b) : e.before a ≤ e.before b := by
  have hs := h.size.1
  have hp := h.p0
  unfold Ev.before
  by_cases h1 : a ≤ e.s
  · rw [if_pos h1]
    exact (h.before_range b).1
  · rw [if_neg h1, if_neg (by omega)]
    have : (a - e.s - 1) / e.p ≤ (b - e.s - 1) / e.p := Int.ediv_le_ediv (by omega) (by omega)
    omega
end Go.Proofs.YtpgckpafjiojfaaGreatDoor.BW
namespace Go.Proofs.YtpgckpafjiojfaaGreatDoor.BW
open Go.RowKit BM Go.Shelf MC
open BK hiding ret_bool ret_i64

end Go.Proofs.YtpgckpafjiojfaaGreatDoor.BW

namespace Go.Proofs
end Go.Proofs
namespace Go.Proofs.YtpgckpafjiojfaaGreatDoor.BW
open Go.RowKit BM Go.Shelf MC Go.Sort
open BK hiding ret_bool ret_i64

end Go.Proofs.YtpgckpafjiojfaaGreatDoor.BW
namespace Go.Proofs.YtpgckpafjiojfaaGreatDoor.BW
open Go.RowKit BM Go.Shelf MC
open BK hiding ret_bool ret_i64

end Go.Proofs.YtpgckpafjiojfaaGreatDoor.BW
namespace Go.Proofs.YtpgckpafjiojfaaGreatDoor.BW
open Go.RowKit BM Go.Shelf MC RK
open BK hiding ret_bool ret_i64

attribute [local go_sem] Oper.semAt_some

end Go.Proofs.YtpgckpafjiojfaaGreatDoor.BW
namespace Go.Proofs.YtpgckpafjiojfaaGreatDoor.RK
open Go Go.RowKit

variable {F : Fence} {n : Nat} {P : Program}

end Go.Proofs.YtpgckpafjiojfaaGreatDoor.RK
namespace Go.Proofs.YtpgckpafjiojfaaGreatDoor.BW
open Go.RowKit BM Go.Shelf MC RK
open BK hiding ret_bool ret_i64

/-! ### what join has found so far -/
end Go.Proofs.YtpgckpafjiojfaaGreatDoor.BW
namespace Go.Proofs.YtpgckpafjiojfaaGreatDoor.BW
open Go.RowKit BM Go.Shelf MC RK
open BK hiding ret_bool ret_i64

attribute [local go_sem] Oper.semAt_some

theorem one2 (a b : Int) : ∀ u ∈ [Value.int .i64 a, .int .i64 b], u.oneCell' = true := by
  intro u hu; simp at hu; rcases hu with rfl | rfl <;> rfl
theorem blk_app {W w1 : World} {k base : Nat} {t e : TypeId} {size n : Nat} {v : Value} {cs : Array Value} {xs : List Value} {tmp : Obj} (h : Blk W k t cs) (hk : k < base) (hrow : W.ownsRow base e size v n xs) (hgrow : (W.alloc tmp).grownBy w1 v.ownBlock) : Blk w1 k t cs :=
  (hgrow.block k (by simp; have := h.lt; omega) (own_ge hrow hk)).trans (h.alloc tmp)
end Go.Proofs.YtpgckpafjiojfaaGreatDoor.BW
namespace Go.Proofs.YtpgckpafjiojfaaGreatDoor.BW
open Go.RowKit BM Go.Shelf MC RK
open BK hiding ret_bool ret_i64

theorem SpansAt.nil (w : World) (a : Option Addr) : SpansAt w a [] := fun _ hk => absurd hk (Nat.not_lt_zero _)
end Go.Proofs.YtpgckpafjiojfaaGreatDoor.BW

namespace Go.Proofs.YtpgckpafjiojfaaGreatDoor.BW
open Go.RowKit BM Go.Shelf MC RK
open BK hiding ret_bool ret_i64

attribute [local go_sem] Oper.semAt_some

section
variable {w0 : World} {p : Pl} {V : Array Value} {pb kb fb : Nat} {f : Int} {X Y : World}
end
end Go.Proofs.YtpgckpafjiojfaaGreatDoor.BW
namespace Go.Proofs.YtpgckpafjiojfaaGreatDoor.BW
open Go.RowKit BM Go.Shelf MC RK
open BK hiding ret_bool ret_i64

attribute [local go_sem] Oper.semAt_some

end Go.Proofs.YtpgckpafjiojfaaGreatDoor.BW
namespace Go.Proofs.YtpgckpafjiojfaaGreatDoor.BW
open Go.RowKit BM Go.Shelf MC RK
open BK hiding ret_bool ret_i64

attribute [local go_sem] Oper.semAt_some

end Go.Proofs.YtpgckpafjiojfaaGreatDoor.BW
namespace Go.Proofs.YtpgckpafjiojfaaGreatDoor.BW
open Go.RowKit BM Go.Shelf MC
open BK hiding ret_bool ret_i64

end Go.Proofs.YtpgckpafjiojfaaGreatDoor.BW

namespace Go.Proofs.YtpgckpafjiojfaaGreatDoor.BW
open Go.RowKit BM Go.Shelf MC
open BK hiding ret_bool ret_i64

end Go.Proofs.YtpgckpafjiojfaaGreatDoor.BW
namespace Go.Proofs.YtpgckpafjiojfaaGreatDoor.BW
open Go.RowKit BM Go.Shelf MC
open BK hiding ret_bool ret_i64

end Go.Proofs.YtpgckpafjiojfaaGreatDoor.BW
namespace Go.Proofs.YtpgckpafjiojfaaGreatDoor.BW
open Go.RowKit BM Go.Shelf MC
open BK hiding ret_bool ret_i64

end Go.Proofs.YtpgckpafjiojfaaGreatDoor.BW
namespace Go.Proofs.YtpgckpafjiojfaaGreatDoor.BW
open Go.RowKit BM Go.Shelf MC RK
open BK hiding ret_bool ret_i64

end Go.Proofs.YtpgckpafjiojfaaGreatDoor.BW
namespace Go.Proofs.YtpgckpafjiojfaaGreatDoor.BW
open Go.RowKit BM Go.Shelf MC
open BK hiding ret_bool ret_i64

end Go.Proofs.YtpgckpafjiojfaaGreatDoor.BW

namespace Go.Proofs.YtpgckpafjiojfaaGreatDoor.BW
open Go.RowKit BM Go.Shelf MC RK
open BK hiding ret_bool ret_i64

def OwnsJ (B : Nat) (v : Value) (ys : List Int) (w : World) : Prop := w.ownsRow B 3 1 v ys.length (ys.map tcell)
theorem OwnsJ.below {B : Nat} {v : Value} {ys : List Int} {X Y : World} (h : OwnsJ B v ys X) (hb : Below X.heap.size X Y) : OwnsJ B v ys Y :=
  ⟨h.1, h.2.imp id fun ⟨g, cap, cur, h1, h2, h3, h4⟩ => ⟨g, cap, cur, h1, h2, (hb.block g (Array.getElem?_eq_some_iff.1 h3).1).trans h3, h4⟩⟩
end Go.Proofs.YtpgckpafjiojfaaGreatDoor.BW
namespace Go.Proofs.YtpgckpafjiojfaaGreatDoor.BW
open Go.RowKit BM Go.Shelf MC RK
open BK hiding ret_bool ret_i64

end Go.Proofs.YtpgckpafjiojfaaGreatDoor.BW
namespace Go.Proofs.YtpgckpafjiojfaaGreatDoor.BW
open Go.RowKit BM Go.Shelf MC RK
open BK hiding ret_bool ret_i64

theorem OwnsJ.shape {B : Nat} {v : Value} {ys : List Int} {w : World} (h : OwnsJ B v ys w) : ∃ a cap, v = .slice a ys.length cap ∧ IntsAt w a ys := by
  obtain ⟨hl, h⟩ := h
  rcases h with ⟨rfl, h0⟩ | ⟨g, cap, cur, rfl, hb, hg, hn, hc, hs, ht⟩
  · have : ys = [] := List.eq_nil_of_length_eq_zero h0
    subst this
    exact ⟨none, 0, rfl, fun k hk => by simp at hk⟩
  · refine ⟨_, cap, rfl, fun k hk => ⟨g, 0, rfl, ?_⟩⟩
    have h1 : (ys.map tcell)[k]? = some (tcell ys[k]) := by simp [hk]
    rw [← ht, List.getElem?_take] at h1
    simp only [Nat.mul_one, hk, if_true] at h1
    have h2 : cur[k]? = some (tcell ys[k]) := by simpa using h1
    simp only [World.cell?, hg, Nat.zero_add, Option.isSome_none, Bool.false_eq_true, if_false, h2]
    rfl
end Go.Proofs.YtpgckpafjiojfaaGreatDoor.BW
namespace Go.Proofs.YtpgckpafjiojfaaGreatDoor.BW
open Go.RowKit BM Go.Shelf MC RK
open BK hiding ret_bool ret_i64

/-- A plan as it comes in. -/
structure PIn (w : World) (p : Pl) (l : List (Int × Int)) : Prop where
  x : U64s p.x
  n : l.length = p.n
  at_ : SpansAt w p.a l
theorem PIn.arg {w : World} {p : Pl} {l : List (Int × Int)} (h : PIn w p l) (hn : p.n ≤ 200) (hT : SpTab w) (hTab : Tab w) : PArg w p l := ⟨h.x, h.n, by omega, h.at_, hT, hTab⟩
end Go.Proofs.YtpgckpafjiojfaaGreatDoor.BW

namespace Go.Proofs.YtpgckpafjiojfaaGreatDoor.BW
open Go.RowKit BM Go.Shelf MC RK
open BK hiding ret_bool ret_i64

/-- A plan with other memory for its spans. -/
def Pl.withS (p : Pl) (a : Option Addr) (c : Nat) : Pl := ⟨p.k, p.x, p.z, p.e, a, p.n, c⟩
end Go.Proofs.YtpgckpafjiojfaaGreatDoor.BW

namespace Go.Proofs.YtpgckpafjiojfaaGreatDoor.BW
open Go.RowKit BM Go.Shelf MC RK
open BK hiding ret_bool ret_i64
section
attribute [local go_sem] Oper.semAt_some
end
theorem PIn.below {w w' : World} {p : Pl} {l : List (Int × Int)} (h : PIn w p l) (hb : Below w.heap.size w w') : PIn w' p l := ⟨h.x, h.n, h.at_.below hb⟩
end Go.Proofs.YtpgckpafjiojfaaGreatDoor.BW
