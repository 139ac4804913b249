/- What admit's Copy has laid so far. -/
import Derived.Test.YtpgckpafjiojfaaGreatDoorAHa
import Derived.Laws.Tables
import Derived.Laws.IdiomStrings
import Derived.Deep.AppendLies
namespace Go.Proofs.YtpgckpafjiojfaaGreatDoor.AD
open Go Go.RowKit BW
open BK (Bx BoxAt Blk only_refl only_drew only_drewN only_setCell only_trans only_of_below only_alloc below_drewN)
structure CyI (w : World) (x : Gt) (L0 : Ly) (cp lm G : Nat) (dv : Value) (ps : List (Nat × Nat)) (W : World) : Prop where
 gate : Blk W G 118 #[.pointer (some ⟨cp, 0, none⟩), .int .i64 x.cap, .pointer (some ⟨lm, 0, none⟩), dv, .slice L0.ea x.js.length L0.ec, .int .i64 x.last]
 caps : CpAt W cp x.cp
 lim : LmAt W lm x.both
 doors : W.ownsRow w.heap.size 125 2 dv ps.length (doorsC ps)
 job : ∀ (k : Nat) (q : Nat × Nat) (j : Jt), ps[k]? = some q → x.js[k]? = some j → LmAt W q.1 j.lm ∧ BoxAt W q.2 j.bx
 lo : w.heap.size ≤ G ∧ w.heap.size ≤ cp ∧ w.heap.size ≤ lm ∧ ∀ q ∈ ps, w.heap.size ≤ q.1 ∧ w.heap.size ≤ q.2
 dist : ∀ (k : Nat) (q : Nat × Nat), ps[k]? = some q → q.1 ≠ lm ∧ ∀ (i : Nat) (r : Nat × Nat), ps[i]? = some r → i ≠ k → r.1 ≠ q.1 ∧ r.2 ≠ q.2
 below : Below w.heap.size w W
 len : ps.length ≤ x.js.length
section
variable {w : World} {x : Gt} {L0 : Ly} {cp lm G : Nat} {dv : Value} {ps : List (Nat × Nat)} {W : World}
theorem CyI.next (h : CyI w x L0 cp lm G dv ps W) {X : World} (hb : Below W.heap.size W X) : CyI w x L0 cp lm G dv ps X :=
 ⟨h.gate.below hb h.gate.lt, Blk.below h.caps hb (Blk.lt h.caps), Blk.below h.lim hb (Blk.lt h.lim), own_below h.doors hb,
  fun k q j h1 h2 => ⟨Blk.below (h.job k q j h1 h2).1 hb (Blk.lt (h.job k q j h1 h2).1), Blk.below (h.job k q j h1 h2).2 hb (Blk.lt (h.job k q j h1 h2).2)⟩, h.lo, h.dist, h.below.trans (hb.mono h.below.size), h.len⟩
theorem CyI.push (h : CyI w x L0 cp lm G dv ps W) {X Y : World} (hb : Below W.heap.size W X) {li bo : Nat} {jt : Jt} (hx : x.js[ps.length]? = some jt) (h1 : LmAt X li jt.lm) (h2 : BoxAt X bo jt.bx) (hli : W.heap.size ≤ li) (hbo : W.heap.size ≤ bo)
 {v' : Value} (hown : Y.ownsRow w.heap.size 125 2 v' (ps.length + 1) (doorsC ps ++ doorC (li, bo))) (hg : X.grownBy Y dv.ownBlock) : CyI w x L0 cp lm G v' (ps ++ [(li, bo)]) (Y.setCell ⟨G, 3, none⟩ v') := by
 have hX := h.next hb
 have hlp : ∀ (k : Nat) (q : Nat × Nat), ps[k]? = some q → q.1 < W.heap.size ∧ q.2 < W.heap.size := fun k q hq => by
  have hk : k < x.js.length := Nat.lt_of_lt_of_le (List.getElem?_eq_some_iff.1 hq).1 h.len
  have := h.job k q _ hq (List.getElem?_eq_getElem hk)
  exact ⟨Blk.lt this.1, Blk.lt this.2⟩
 have hlm : lm < W.heap.size := Blk.lt h.lim
 have kp : ∀ {g : Nat} {t : TypeId} {cs : Array Value}, Blk X g t cs → 125 ≠ t → Blk Y g t cs := fun hk hne => (hg.block _ hk.lt (own_blk_ne hX.doors hk hne)).trans hk
 have gy := kp hX.gate (by decide)
 have kq : ∀ {g : Nat} {t : TypeId} {cs : Array Value}, Blk X g t cs → 125 ≠ t → t ≠ 118 → Blk (Y.setCell ⟨G, 3, none⟩ v') g t cs := fun hk hne hne2 => Blk.far (kp hk hne) (blk_ne (kp hk hne) gy hne2) v'
 have hwX := hX.below.size
 have hYs := hg.size
 refine ⟨?_, kq hX.caps (by decide) (by decide), kq hX.lim (by decide) (by decide), ?_, fun k q y hq hy => ?_, ⟨h.lo.1, h.lo.2.1, h.lo.2.2.1, fun q hq => ?_⟩, fun k q hq => ⟨?_, fun i r hr hne => ?_⟩, ?_, ?_⟩
 ·exact Blk.set_ gy 3 v'
 ·rw [doorsC_snoc, List.length_append]
  exact own_set hown gy (by decide) 3 v'
 ·rcases snoc_get hq with ⟨hk, hq⟩ | ⟨rfl, rfl⟩
  ·have := hX.job k q y hq hy
   exact ⟨kq this.1 (by decide) (by decide), kq this.2 (by decide) (by decide)⟩
  ·rw [hx] at hy
   injection hy with hy
   subst hy
   exact ⟨kq h1 (by decide) (by decide), kq h2 (by decide) (by decide)⟩
 ·rcases List.mem_append.1 hq with hq | hq
  ·exact h.lo.2.2.2 q hq
  ·simp at hq
   subst hq
   have := h.below.size
   exact ⟨by show w.heap.size ≤ li; omega, by show w.heap.size ≤ bo; omega⟩
 ·rcases snoc_get hq with ⟨hk, hq⟩ | ⟨rfl, rfl⟩
  ·exact (h.dist k q hq).1
  ·show li ≠ lm
   omega
 ·rcases snoc_get hq with ⟨hk, hq⟩ | ⟨rfl, rfl⟩
  ·rcases snoc_get hr with ⟨hk2, hr⟩ | ⟨rfl, rfl⟩
   ·exact (h.dist k q hq).2 i r hr hne
   ·have := hlp k q hq
    exact ⟨by show li ≠ q.1; omega, by show bo ≠ q.2; omega⟩
  ·rcases snoc_get hr with ⟨hk2, hr⟩ | ⟨rfl, rfl⟩
   ·have := hlp i r hr
    exact ⟨by show r.1 ≠ li; omega, by show r.2 ≠ bo; omega⟩
   ·exact absurd rfl hne
 ·refine ((hX.below.grown hg hwX fun j ej => ?_)).setCell h.lo.1 v'
  rcases Nat.lt_or_ge j w.heap.size with h' | h'
  ·exact absurd ej.symm (own_ge hX.doors h')
  ·exact h'
 ·rw [List.length_append]
  have := (List.getElem?_eq_some_iff.1 hx).1
  simp
  omega
theorem CyI.fin (h : CyI w x L0 cp lm G dv ps W) (hl : ps.length = x.js.length) (hs : GAt w L0 x) : ∃ Y : Ly, Y.g = G ∧ GAt W Y x ∧ (∀ i, Y.own x.js.length i → w.heap.size ≤ i) ∧ ∀ i, Y.sup x.js.length i → w.heap.size ≤ i ∨ ∃ o, L0.ea = some ⟨i, o, none⟩ := by
 have hsW := hs.below h.below
 obtain ⟨da, dc, hdv, hdr⟩ : ∃ da dc, dv = .slice da ps.length dc ∧ (0 < ps.length → ∃ b cs, da = some ⟨b, 0, none⟩ ∧ w.heap.size ≤ b ∧ Blk W b 125 cs ∧ ∀ (k : Nat) (q : Nat × Nat), ps[k]? = some q → cs[k * 2]? = some (.pointer (some ⟨q.1, 0, none⟩)) ∧ cs[k * 2 + 1]? = some (.pointer (some ⟨q.2, 0, none⟩))) := by
  obtain ⟨hd0, hd⟩ := h.doors
  rcases hd with ⟨rfl, h0⟩ | ⟨g, cap, cur, rfl, hb, hg, hn, hc, hs, ht⟩
  ·exact ⟨none, 0, by rw [h0], fun h1 => absurd h1 (by omega)⟩
  ·refine ⟨_, cap, rfl, fun _ => ⟨g, cur, rfl, hb, hg, fun k q hq => ?_⟩⟩
   have hk : k < ps.length := (List.getElem?_eq_some_iff.1 hq).1
   obtain ⟨e1, e2⟩ := doorsC_get ps k q hq
   rw [← ht, List.getElem?_take, if_pos (by omega)] at e1 e2
   exact ⟨by simpa using e1, by simpa using e2⟩
 subst hdv
 refine ⟨lyOf cp lm G da L0.ea dc L0.ec ps, rfl, ⟨?_, h.caps, h.lim, fun h0 => ?_, hsW.each, fun k j hj => ?_, fun k hk => ⟨?_, fun i hi hne => ?_⟩, hs.inv⟩, fun i hi => ?_, fun i hi => ?_⟩
 ·have hg := h.gate
  have e : (lyOf cp lm G da L0.ea dc L0.ec ps).cells x = #[.pointer (some ⟨cp, 0, none⟩), .int .i64 x.cap, .pointer (some ⟨lm, 0, none⟩), .slice da ps.length dc, .slice L0.ea x.js.length L0.ec, .int .i64 x.last] := by
   unfold Ly.cells lyOf
   rw [hl]
  rw [e]
  exact hg
 ·obtain ⟨b, cs, e, -, h1, h2⟩ := hdr (by omega)
  refine ⟨b, cs, e, h1, fun k hk => ?_⟩
  rw [← hl] at hk
  have := h2 k ps[k] (List.getElem?_eq_getElem hk)
  show cs[k * 2]? = some (.pointer (some ⟨((ps[k]?).map (·.1)).getD 0, 0, none⟩)) ∧ cs[k * 2 + 1]? = some (.pointer (some ⟨((ps[k]?).map (·.2)).getD 0, 0, none⟩))
  rw [List.getElem?_eq_getElem hk]
  exact this
 ·have hk : k < ps.length := by rw [hl]; exact (List.getElem?_eq_some_iff.1 hj).1
  have := h.job k ps[k] j (List.getElem?_eq_getElem hk) hj
  show LmAt W (((ps[k]?).map (·.1)).getD 0) _ ∧ BoxAt W (((ps[k]?).map (·.2)).getD 0) _
  rw [List.getElem?_eq_getElem hk]
  exact this
 ·rw [← hl] at hk
  have := (h.dist k ps[k] (List.getElem?_eq_getElem hk)).1
  show ((ps[k]?).map (·.1)).getD 0 ≠ lm
  rw [List.getElem?_eq_getElem hk]
  exact this
 ·rw [← hl] at hk hi
  have := (h.dist k ps[k] (List.getElem?_eq_getElem hk)).2 i ps[i] (List.getElem?_eq_getElem hi) hne
  show ((ps[i]?).map (·.1)).getD 0 ≠ ((ps[k]?).map (·.1)).getD 0 ∧ ((ps[i]?).map (·.2)).getD 0 ≠ ((ps[k]?).map (·.2)).getD 0
  rw [List.getElem?_eq_getElem hk, List.getElem?_eq_getElem hi]
  exact this
 ·rcases hi with rfl | rfl | rfl | ⟨k, hk, hi⟩
  ·exact h.lo.1
  ·exact h.lo.2.1
  ·exact h.lo.2.2.1
  ·rw [← hl] at hk
   have := h.lo.2.2.2 ps[k] (List.getElem_mem hk)
   have e1 : (lyOf cp lm G da L0.ea dc L0.ec ps).li k = ps[k].1 := by show ((ps[k]?).map (·.1)).getD 0 = _; rw [List.getElem?_eq_getElem hk]; rfl
   have e2 : (lyOf cp lm G da L0.ea dc L0.ec ps).bo k = ps[k].2 := by show ((ps[k]?).map (·.2)).getD 0 = _; rw [List.getElem?_eq_getElem hk]; rfl
   rw [e1, e2] at hi
   rcases hi with rfl | rfl
   ·exact this.1
   ·exact this.2
 ·rcases hi with hi | ⟨h0, o, e⟩ | ⟨h0, o, e⟩
  ·left
   rcases hi with rfl | rfl | rfl | ⟨k, hk, hi⟩
   ·exact h.lo.1
   ·exact h.lo.2.1
   ·exact h.lo.2.2.1
   ·rw [← hl] at hk
    have := h.lo.2.2.2 ps[k] (List.getElem_mem hk)
    have e1 : (lyOf cp lm G da L0.ea dc L0.ec ps).li k = ps[k].1 := by show ((ps[k]?).map (·.1)).getD 0 = _; rw [List.getElem?_eq_getElem hk]; rfl
    have e2 : (lyOf cp lm G da L0.ea dc L0.ec ps).bo k = ps[k].2 := by show ((ps[k]?).map (·.2)).getD 0 = _; rw [List.getElem?_eq_getElem hk]; rfl
    rw [e1, e2] at hi
    rcases hi with rfl | rfl
    ·exact this.1
    ·exact this.2
  ·left
   obtain ⟨b, cs, e', hlo, _⟩ := hdr (by omega)
   rw [show (lyOf cp lm G da L0.ea dc L0.ec ps).da = da from rfl, e'] at e
   injection e with e
   injection e with e
   omega
  ·exact .inr ⟨o, e⟩
end
end Go.Proofs.YtpgckpafjiojfaaGreatDoor.AD
