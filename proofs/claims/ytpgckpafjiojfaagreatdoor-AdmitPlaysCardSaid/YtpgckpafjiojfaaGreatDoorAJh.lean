/- What Restore of a gate keeps while it walks. -/
import Derived.Test.YtpgckpafjiojfaaGreatDoorAJb
import Derived.Test.YtpgckpafjiojfaaGreatDoorAJe
import Derived.Test.YtpgckpafjiojfaaGreatDoorAJg
namespace Go.Proofs.YtpgckpafjiojfaaGreatDoor.AD
open Go Go.RowKit BW
open BK (Bx BoxAt Blk only_refl only_drew only_drewN only_setCell only_trans only_of_below only_alloc below_drewN)
def Row1 (W : World) (a : Option Addr) (es : List Int) : Prop := ∀ k (hk : k < es.length), ∃ b off, a = some ⟨b, off, none⟩ ∧ W.cell? ⟨b, off + k, none⟩ = some (.int .i64 es[k])
def Row4 (W : World) (a : Option Addr) (bs : List BxQ) : Prop := ∀ k (hk : k < bs.length), ∃ b off, a = some ⟨b, off, none⟩ ∧ ∀ i, i < 4 → W.cell? ⟨b, off + k * 4 + i, none⟩ = (bxC bs[k])[i]?
theorem Row1.below {W W' : World} {a : Option Addr} {es : List Int} (h : Row1 W a es) (hb : Below W.heap.size W W') : Row1 W' a es := fun k hk => by
 obtain ⟨b, off, e, h1⟩ := h k hk
 exact ⟨b, off, e, (hb.cell (p := ⟨b, off + k, none⟩) (World.block_lt_of_cell? W _ h1)).trans h1⟩
theorem Row4.below {W W' : World} {a : Option Addr} {bs : List BxQ} (h : Row4 W a bs) (hb : Below W.heap.size W W') : Row4 W' a bs := fun k hk => by
 obtain ⟨b, off, e, h1⟩ := h k hk
 refine ⟨b, off, e, fun i hi => ?_⟩
 have h2 := h1 i hi
 obtain ⟨v, hv⟩ : ∃ v, (bxC bs[k])[i]? = some v := ⟨_, List.getElem?_eq_getElem (show i < (bxC bs[k]).length from hi)⟩
 rw [hv] at h2 ⊢
 exact (hb.cell (p := ⟨b, off + k * 4 + i, none⟩) (World.block_lt_of_cell? W _ h2)).trans h2
theorem Row1.of {W : World} {B : Nat} {a : Option Addr} {es : List Int} (h : RowL W B a es) : Row1 W a es := fun k hk => by
 obtain ⟨b, cs, e, -, h1, h2⟩ := h (by omega)
 exact ⟨b, 0, e, by rw [Nat.zero_add, h1.cell]; exact h2 k hk⟩
theorem Row1.ofI {W : World} {B : Nat} {a : Option Addr} {es : List Int} (h : RowI W B a es) : Row1 W a es := fun k hk => by
 obtain ⟨b, cs, e, -, h1, h2⟩ := h (by omega)
 exact ⟨b, 0, e, by rw [Nat.zero_add, h1.cell]; exact h2 k hk⟩
theorem Row4.of {W : World} {B : Nat} {a : Option Addr} {bs : List BxQ} (h : RowB W B a bs) : Row4 W a bs := fun k hk => by
 obtain ⟨b, cs, e, -, h1, h2⟩ := h (by omega)
 refine ⟨b, 0, e, fun i hi => ?_⟩
 rw [Nat.zero_add, h1.cell]
 obtain ⟨e0, e1, e2, e3⟩ := h2 k hk
 match i, hi with
 | 0, _ => exact e0
 | 1, _ => exact e1
 | 2, _ => exact e2
 | 3, _ => exact e3
 | i + 4, hi => omega
section
variable {g : Gl} {L : JL} {rs ts : List Int} {bs : List Bs} {now : Int}
end
section
variable {w W W' : World} {cb sb gp N : Nat} {cc sc : Array Value} {Y : Ly} {x : Gt}
end
end Go.Proofs.YtpgckpafjiojfaaGreatDoor.AD
