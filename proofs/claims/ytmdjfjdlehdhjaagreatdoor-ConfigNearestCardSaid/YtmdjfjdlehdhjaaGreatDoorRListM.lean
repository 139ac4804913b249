/- What the reference's List knows of the times of a span. -/
import Derived.Test.YtmdjfjdlehdhjaaGreatDoorRFrom
import Derived.Test.YtmdjfjdlehdhjaaGreatDoorMList
namespace Go.Proofs.YtmdjfjdlehdhjaaGreatDoor.BW
open Go.RowKit BM Go.Shelf MC RK
open BK hiding ret_bool ret_i64

theorem sorted_ext : ∀ {l m : List Int}, l.Pairwise (· < ·) → m.Pairwise (· < ·) → (∀ t, t ∈ l ↔ t ∈ m) → l = m
  | [], [], _, _, _ => rfl
  | [], b :: m, _, _, h => absurd ((h b).2 (by simp)) (by simp)
  | a :: l, [], _, _, h => absurd ((h a).1 (by simp)) (by simp)
  | a :: l, b :: m, hl, hm, h => by
    have h1 := List.pairwise_cons.1 hl
    have h2 := List.pairwise_cons.1 hm
    have e : a = b := by
      rcases List.mem_cons.1 ((h a).1 (by simp)) with e | e
      · exact e
      · rcases List.mem_cons.1 ((h b).2 (by simp)) with e' | e'
        · exact e'.symm
        · have := h2.1 a e; have := h1.1 b e'; omega
    subst e
    congr 1
    refine sorted_ext h1.2 h2.2 fun t => ?_
    constructor
    · intro ht
      rcases List.mem_cons.1 ((h t).1 (by simp [ht])) with e | e
      · have := h1.1 t ht; omega
      · exact e
    · intro ht
      rcases List.mem_cons.1 ((h t).2 (by simp [ht])) with e | e
      · have := h2.1 t ht; omega
      · exact e
theorem times_cons {x : Ex} {z c t b : Int} (hz : -840 ≤ z ∧ z ≤ 840) (h : fromV x z c = some t) (hb : t ≤ b) : timesL x z c b = t :: timesL x z (t + 1) b := by
  obtain ⟨h1, h2, h3⟩ := (fromV_some hz).1 h
  refine sorted_ext (timesL_sorted ..) (List.pairwise_cons.2 ⟨fun m hm => ?_, timesL_sorted ..⟩) fun m => ?_
  · have := (timesL_mem hz).1 hm; omega
  · rw [List.mem_cons, timesL_mem hz, timesL_mem hz]
    constructor
    · rintro ⟨m1, m2, m3⟩
      rcases Int.lt_trichotomy m t with h4 | h4 | h4
      · rw [h3 m m1 h4] at m3; cases m3
      · exact .inl h4
      · exact .inr ⟨by omega, m2, m3⟩
    · rintro (rfl | ⟨m1, m2, m3⟩)
      · exact ⟨h1, hb, h2⟩
      · exact ⟨by omega, m2, m3⟩
theorem times_end {x : Ex} {z c b : Int} (hz : -840 ≤ z ∧ z ≤ 840) (h : ∀ t, fromV x z c = some t → b < t) : timesL x z c b = [] := by
  rw [List.eq_nil_iff_forall_not_mem]
  intro m hm
  obtain ⟨m1, m2, m3⟩ := (timesL_mem hz).1 hm
  cases hf : fromV x z c with
  | none => rw [(fromV_none hz).1 hf m m1] at m3; cases m3
  | some t =>
    have := h t hf
    obtain ⟨h1, h2, h3⟩ := (fromV_some hz).1 hf
    rw [h3 m m1 (by omega)] at m3; cases m3
theorem from_range {x : Ex} {z c t : Int} (hz : -840 ≤ z ∧ z ≤ 840) (h : fromV x z c = some t) : c ≤ t ∧ 0 ≤ t ∧ t ≤ 253402300799 := by
  obtain ⟨h1, h2, h3⟩ := (fromV_some hz).1 h
  have := At_range h2
  omega
/-- What is known in the rounds of the reference's List. -/
structure LrI (x : Ex) (w : World) (B : Nat) (v : Value) (ys : List Int) (W : World) : Prop where
  xb : Blk W w.heap.size 24 (exV x)
  own : OwnsT B v ys W
  below : Below w.heap.size w W
  size : B ≤ W.heap.size
theorem LrI.next {x : Ex} {w : World} {B : Nat} {v : Value} {ys : List Int} {X Y : World} (h : LrI x w B v ys X) (hb : Below X.heap.size X Y) : LrI x w B v ys Y :=
  ⟨h.xb.below hb h.xb.lt, h.own.steps (RK.Steps.of_below (own := fun _ => False) (B := X.heap.size) hb), h.below.trans (hb.mono h.below.size), Nat.le_trans h.size hb.size⟩
theorem LrI.cells {x : Ex} {w : World} {B : Nat} {v : Value} {ys : List Int} {W : World} (h : LrI x w B v ys W) : W.cell? ⟨w.heap.size, 0, none⟩ = some (.int .u64 x.s) ∧ W.cell? ⟨w.heap.size, 1, none⟩ = some (.int .u64 x.mi) ∧ W.cell? ⟨w.heap.size, 2, none⟩ = some (.int .u64 x.h) ∧ W.cell? ⟨w.heap.size, 3, none⟩ = some (.int .u64 x.d) ∧ W.cell? ⟨w.heap.size, 4, none⟩ = some (.int .u64 x.mo) ∧ W.cell? ⟨w.heap.size, 5, none⟩ = some (.int .u64 x.w) ∧ W.cell? ⟨w.heap.size, 6, none⟩ = some (.bool x.ad) ∧ W.cell? ⟨w.heap.size, 7, none⟩ = some (.bool x.aw) :=
  ⟨h.xb.cell 0, h.xb.cell 1, h.xb.cell 2, h.xb.cell 3, h.xb.cell 4, h.xb.cell 5, h.xb.cell 6, h.xb.cell 7⟩
theorem LrI.push {x : Ex} {w : World} {B : Nat} {v v' : Value} {ys : List Int} {d : Int} {X Y : World} {tmp : Obj} (h : LrI x w B v ys X) (hB : w.heap.size < B)
    (hown' : Y.ownsRow B 2 1 v' (ys.length + 1) (ys.map tcell ++ [.int .i64 d])) (hgrow : (X.alloc tmp).grownBy Y v.ownBlock) : LrI x w B v' (ys ++ [d]) Y := by
  have hrow : X.ownsRow B 2 1 v ys.length (ys.map tcell) := h.own
  have hs : X.heap.size + 1 ≤ Y.heap.size := by have := hgrow.size; simpa using this
  refine ⟨(hgrow.block _ (by simp; have := h.xb.lt; omega) (own_ge hrow hB)).trans (h.xb.alloc tmp), by unfold OwnsT; simpa [tcell] using hown', ?_, by have := h.size; omega⟩
  refine h.below.trans (((Below.refl w.heap.size X).alloc (by have := h.below.size; omega) tmp).grown hgrow (by simp; have := h.below.size; omega) fun j ej => ?_)
  rcases Nat.lt_or_ge j B with h' | h'
  · exact absurd ej.symm (own_ge hrow h')
  · omega
theorem take_done {L ys : List Int} {M : Nat} (h : ys ++ [] = L) (hl : ys.length ≤ M) : L.take M = ys := by
  rw [← h, List.append_nil]; exact List.take_of_length_le hl
theorem take_full {L ys zs : List Int} {M : Nat} (h : ys ++ zs = L) (hl : ys.length = M) : L.take M = ys := by
  rw [← h, ← hl, List.take_left]
end Go.Proofs.YtmdjfjdlehdhjaaGreatDoor.BW
