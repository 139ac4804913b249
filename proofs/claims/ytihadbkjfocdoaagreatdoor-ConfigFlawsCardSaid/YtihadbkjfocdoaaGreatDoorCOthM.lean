/- A configuration without one of its jobs. -/
import Derived.Test.YtihadbkjfocdoaaGreatDoorCCopy
import Derived.Test.YtihadbkjfocdoaaGreatDoorCWk
namespace Go.Proofs.YtihadbkjfocdoaaGreatDoor.BW
open Go.RowKit BM Go.Shelf MC RK
open BK hiding ret_bool ret_i64

/-- The numbers without k, those beyond it one less. -/
def othK (k : Int) : List Int → List Int
  | [] => []
  | x :: r => if x = k then othK k r else (if k < x then x - 1 else x) :: othK k r
theorem oth_ge (t : Int) (k : Nat) : ∀ (P : List (Pl × List (Int × Int))) (j : Nat), k ≤ j → othK k (dueA t P (j + 1)) = dueA t P j := by
  intro P
  induction P with
  | nil => intro j _; rfl
  | cons x P ih =>
    intro j hj
    unfold dueA
    split
    · rw [othK, if_neg (by omega), if_pos (by omega), ih (j + 1) (by omega)]
      congr 1
      omega
    · exact ih (j + 1) (by omega)
theorem oth_due (t : Int) (k : Nat) : ∀ (P : List (Pl × List (Int × Int))) (i : Nat), i ≤ k → k < i + P.length → othK k (dueA t P i) = dueA t (P.eraseIdx (k - i)) i := by
  intro P
  induction P with
  | nil => intro i h1 h2; simp at h2; omega
  | cons x P ih =>
    intro i h1 h2
    rcases Nat.lt_or_ge i k with h3 | h3
    · obtain ⟨d, hd⟩ : ∃ d, k - i = d + 1 := ⟨k - i - 1, by omega⟩
      have hd2 : k - (i + 1) = d := by omega
      have := ih (i + 1) h3 (by simp at h2; omega)
      rw [hd2] at this
      rw [hd, List.eraseIdx_cons_succ]
      simp only [dueA]
      split
      · rw [othK, if_neg (by omega), if_neg (by omega), this]
      · exact this
    · obtain rfl : i = k := by omega
      rw [Nat.sub_self, List.eraseIdx_cons_zero]
      simp only [dueA]
      split
      · rw [othK, if_pos rfl]; exact oth_ge t i P i (Nat.le_refl _)
      · exact oth_ge t i P i (Nat.le_refl _)
theorem plansOf_erase (L : JL) (k : Nat) : plansOf (L.eraseIdx k) = (plansOf L).eraseIdx k := by
  unfold plansOf
  induction L generalizing k with
  | nil => rfl
  | cons x L ih =>
    cases k with
    | zero => rfl
    | succ k => simp only [List.eraseIdx_cons_succ, List.map_cons, ih k]
theorem erase_at {L : JL} {k i : Nat} (hi : i < (L.eraseIdx k).length) : ∃ j, ∃ hj : j < L.length, (L.eraseIdx k)[i] = L[j] ∧ j = if i < k then i else i + 1 := by
  rw [List.getElem_eraseIdx]
  have hl := List.length_eraseIdx (l := L) (i := k)
  by_cases h : i < k
  · exact ⟨i, by rw [hl] at hi; split at hi <;> omega, by rw [dif_pos h], by rw [if_pos h]⟩
  · exact ⟨i + 1, by rw [hl] at hi; split at hi <;> omega, by rw [dif_neg h], by rw [if_neg h]⟩
theorem CfOk.erase {g : Gl} {L : JL} (h : CfOk g L) (k : Nat) : CfOk g (L.eraseIdx k) := by
  refine ⟨h.gl, Nat.le_trans (List.length_eraseIdx_le ..) h.many, fun i hi => ?_, fun i hi j hj hi' hji => ?_, fun i hi => ?_⟩
  · obtain ⟨m, hm, e, _⟩ := erase_at hi
    rw [e]; exact h.nms m hm
  · obtain ⟨m, hm, e, em⟩ := erase_at hj
    obtain ⟨m2, hm2, e2, em2⟩ := erase_at hi'
    rw [e, e2]
    refine h.new m2 hm2 m hm hm2 ?_
    rw [em, em2]
    split <;> split <;> omega
  · obtain ⟨m, hm, e, _⟩ := erase_at hi
    rw [e]; exact h.all m hm
/-- Jobs that a call owns, as jobs in memory. -/
theorem OwnsC.jobs {base : Nat} {v : Value} {L : JL} {W : World} (h : OwnsC base v L W) (hp : ∀ x ∈ L, PIn W x.1.p x.2) : ∃ a cap, v = .slice a L.length cap ∧ JobsAt W a L := by
  obtain ⟨a, cap, rfl, h1, h2⟩ := h.shape
  refine ⟨a, cap, rfl, fun k hk => ?_⟩
  obtain ⟨g, rfl⟩ := h2 (by omega)
  exact ⟨g, 0, rfl, fun i hi => by rw [Nat.zero_add]; exact h.cell k i hk hi, hp _ (List.getElem_mem hk)⟩
theorem CArg.erase {W X : World} {c : Cf} {L : JL} (hA : CArg W c L) (hb : Below W.heap.size W X) {base : Nat} {v : Value} {k : Nat} (h : OwnsC base v (L.eraseIdx k) X) : ∃ a cap, v = .slice a (L.eraseIdx k).length cap ∧ CArg X ⟨c.g, a, (L.eraseIdx k).length, cap⟩ (L.eraseIdx k) := by
  have hA' := hA.below hb
  have hmem : ∀ x ∈ L.eraseIdx k, x ∈ L := fun x hx => List.mem_of_mem_eraseIdx hx
  obtain ⟨a, cap, e, hj⟩ := h.jobs (fun x hx => by
    obtain ⟨i, hi, rfl⟩ := List.getElem_of_mem (hmem x hx)
    obtain ⟨_, _, _, _, hp⟩ := hA'.in_.at_ i hi
    exact hp)
  refine ⟨a, cap, e, ⟨rfl, hj, hA.in_.sd⟩, Nat.le_trans (List.length_eraseIdx_le ..) (by rw [hA.in_.n]; exact hA.n9), fun i hi => ?_, hA'.st, hA'.tab⟩
  obtain ⟨m, hm, e2, _⟩ := erase_at hi
  rw [e2]; exact hA.p9 m hm
theorem OwnsC.below {B : Nat} {v : Value} {L : JL} {W X : World} (h : OwnsC B v L W) (hb : Below W.heap.size W X) : OwnsC B v L X :=
  ⟨h.1, h.2.imp id fun ⟨g, cap, cur, h1, h2, h3, h4⟩ => ⟨g, cap, cur, h1, h2, (hb.block g (Array.getElem?_eq_some_iff.1 h3).1).trans h3, h4⟩⟩
theorem OwnsC.far {B : Nat} {v : Value} {L : JL} {W : World} (h : OwnsC B v L W) {b j : Nat} (hb : b < B) (u : Value) : OwnsC B v L (W.setCell ⟨b, j, none⟩ u) :=
  ⟨h.1, h.2.imp id fun ⟨g, cap, cur, h1, h2, h3, h4⟩ => ⟨g, cap, cur, h1, h2, (Below.heap_setCell W _ u g (by simp; omega)).trans h3, h4⟩⟩
theorem OwnsC.block {B : Nat} {v : Value} {L : JL} {W : World} (h : OwnsC B v L W) : ∀ k, v.ownBlock = some k → B ≤ k := by
  rcases h.2 with ⟨rfl, _⟩ | ⟨g, cap, cur, rfl, h2, _⟩
  · intro k hk; cases hk
  · intro k hk
    simp [Value.ownBlock] at hk
    omega
theorem cellsJ_append (L M : JL) : cellsJ (L ++ M) = cellsJ L ++ cellsJ M := List.flatMap_append
theorem cellsJ_take {L : JL} {k j : Nat} {u : Value} (h : (cellsJ (L.take k))[j]? = some u) : (cellsJ L)[j]? = some u := by
  have e : cellsJ L = cellsJ (L.take k) ++ cellsJ (L.drop k) := by rw [← cellsJ_append, List.take_append_drop]
  rw [e, List.getElem?_append_left (List.getElem?_eq_some_iff.1 h).1]; exact h
theorem cellsJ_drop {L : JL} {k j : Nat} (hk : k ≤ L.length) : (cellsJ (L.drop k))[j]? = (cellsJ L)[k * 30 + j]? := by
  have e : cellsJ L = cellsJ (L.take k) ++ cellsJ (L.drop k) := by rw [← cellsJ_append, List.take_append_drop]
  have hl : (cellsJ (L.take k)).length = k * 30 := by rw [cellsJ_len, List.length_take, Nat.min_eq_left hk]
  rw [e, List.getElem?_append_right (by rw [hl]; omega), hl, Nat.add_sub_cancel_left]
/-- What the operations of the region have yielded that builds the list without job k. -/
def PO (B T b off n cap k : Nat) (i : Nat) (v : Value) : Prop := match i with
  | 1 => v = .pointer (some ⟨B, 7, none⟩)
  | 2 => v = .slice (some ⟨b, off, none⟩) n cap
  | 3 => v = .int .i64 k
  | 4 => v = .slice (some ⟨b, off, none⟩) k cap
  | 6 => v = .pointer (some ⟨B, 7, none⟩)
  | 7 => v = .slice (some ⟨b, off, none⟩) n cap
  | 8 => v = .int .i64 k
  | 9 => v = .int .i64 ((k : Int) + 1)
  | 10 => ∃ ad, v = .slice (some ad) (n - (k + 1)) (cap - (k + 1)) ∧ (0 < n - (k + 1) → ad = ⟨b, off + (k + 1) * 30, none⟩)
  | 12 => v = .pointer (some ⟨T, 7, none⟩)
  | _ => True
structure InvO (w W0 W3 : World) (T b off cap : Nat) (c : Cf) (L : JL) (k : Nat) (listed : Array Bool) (v : Nat → Value) (W : World) : Prop where
  all : ∀ i, listed[i]? = some true → PO w.heap.size T b off c.n cap k i (v i)
  ord : listed[13]? = some true → ∀ j, j < 13 → listed[j]? = some true
  ord5 : listed[11]? = some true → listed[5]? = some true
  below : listed[13]? = some false → Below W0.heap.size W0 W
  own0 : listed[13]? = some false → listed[0]? = some true → listed[5]? = some false → OwnsC W0.heap.size (v 0) [] W
  own5 : listed[13]? = some false → listed[5]? = some true → listed[11]? = some false → OwnsC W0.heap.size (v 5) (L.take k) W
  own11 : listed[13]? = some false → listed[11]? = some true → OwnsC W0.heap.size (v 11) (L.eraseIdx k) W
  fin : listed[13]? = some true → ∃ a' cap', OwnsC W0.heap.size (.slice a' (L.eraseIdx k).length cap') (L.eraseIdx k) W ∧ Blk W w.heap.size 29 (cfV c) ∧ Blk W T 29 (cfV ⟨c.g, a', (L.eraseIdx k).length, cap'⟩) ∧ Below W3.heap.size W3 W
theorem InvO.open13 {w W0 W3 : World} {T b off cap : Nat} {c : Cf} {L : JL} {k : Nat} {listed : Array Bool} {v : Nat → Value} {W : World} (h : InvO w W0 W3 T b off cap c L k listed v W) (hs : listed.size = 14) {i : Nat} (hi : i ≤ 13) (hli : listed[i]? = some false) : listed[13]? = some false := by
  cases hv : listed[13]? with
  | none => rw [Array.getElem?_eq_none_iff] at hv; omega
  | some x =>
    cases x
    · rfl
    · rcases Nat.lt_or_ge i 13 with h13 | h13
      · have := h.ord hv i h13
        rw [hli] at this; cases this
      · obtain rfl : i = 13 := by omega
        rw [hli] at hv; cases hv
theorem set_ne {listed : Array Bool} {i j : Nat} (h : j ≠ i) (b : Bool) : (listed.setIfInBounds i b)[j]? = listed[j]? := Array.getElem?_setIfInBounds_ne (fun e => h e.symm)
theorem set_eq {listed : Array Bool} {i : Nat} {x : Bool} (h : listed[i]? = some x) : (listed.setIfInBounds i true)[i]? = some true := by
  have := (Array.getElem?_eq_some_iff.1 h).1
  simp [this]
theorem InvO.step {w W0 W3 : World} {T b off cap : Nat} {c : Cf} {L : JL} {k : Nat} {listed : Array Bool} {v : Nat → Value} {W X : World} (h : InvO w W0 W3 T b off cap c L k listed v W) (hs : listed.size = 14) {i : Nat} {u : Value} (hi : i < 13) (hi5 : i ≠ 5) (hi11 : i ≠ 11) (hli : listed[i]? = some false) (hb : Below W.heap.size W X) (hp : PO w.heap.size T b off c.n cap k i u) (h0 : i = 0 → OwnsC W0.heap.size u [] X) :
    InvO w W0 W3 T b off cap c L k (listed.setIfInBounds i true) (updC v i u) X := by
  have h13 := h.open13 hs (by omega) hli
  have e13 : (listed.setIfInBounds i true)[13]? = listed[13]? := set_ne (by omega) _
  have e5 : (listed.setIfInBounds i true)[5]? = listed[5]? := set_ne (fun e => hi5 e.symm) _
  have e11 : (listed.setIfInBounds i true)[11]? = listed[11]? := set_ne (fun e => hi11 e.symm) _
  have u5 : updC v i u 5 = v 5 := if_neg (fun e => hi5 e.symm)
  have u11 : updC v i u 11 = v 11 := if_neg (fun e => hi11 e.symm)
  refine ⟨fun j hj => ?_, fun hz => ?_, ?_, fun _ => (h.below h13).trans (hb.mono (h.below h13).size), ?_, ?_, ?_, fun hz => ?_⟩
  · unfold updC
    by_cases e : j = i
    · subst e; rw [if_pos rfl]; exact hp
    · rw [if_neg e]
      rw [set_ne e] at hj
      exact h.all j hj
  · rw [e13, h13] at hz; cases hz
  · rw [e11, e5]; exact h.ord5
  · intro _ hl0 hl5
    rw [e5] at hl5
    by_cases e : i = 0
    · subst e
      rw [show updC v 0 u 0 = u from if_pos rfl]
      exact h0 rfl
    · rw [set_ne (fun e' => e e'.symm)] at hl0
      rw [show updC v i u 0 = v 0 from if_neg (fun e' => e e'.symm)]
      exact (h.own0 h13 hl0 hl5).below hb
  · intro _ hl5 hl11
    rw [e5] at hl5
    rw [e11] at hl11
    rw [u5]
    exact (h.own5 h13 hl5 hl11).below hb
  · intro _ hl11
    rw [e11] at hl11
    rw [u11]
    exact (h.own11 h13 hl11).below hb
  · rw [e13, h13] at hz; cases hz
theorem InvO.step5 {w W0 W3 : World} {T b off cap : Nat} {c : Cf} {L : JL} {k : Nat} {listed : Array Bool} {v : Nat → Value} {W X : World} (h : InvO w W0 W3 T b off cap c L k listed v W) (hs : listed.size = 14) {u : Value} (hli : listed[5]? = some false) (hb : Below W0.heap.size W0 X) (ho : OwnsC W0.heap.size u (L.take k) X) :
    InvO w W0 W3 T b off cap c L k (listed.setIfInBounds 5 true) (updC v 5 u) X := by
  have h13 := h.open13 hs (by omega) hli
  have e13 : (listed.setIfInBounds 5 true)[13]? = listed[13]? := set_ne (by omega) _
  have e11 : (listed.setIfInBounds 5 true)[11]? = listed[11]? := set_ne (by omega) _
  have e5 := set_eq hli
  refine ⟨fun j hj => ?_, fun hz => ?_, fun _ => e5, fun _ => hb, fun _ _ h5 => ?_, fun _ _ _ => ?_, fun _ hl11 => ?_, fun hz => ?_⟩
  · unfold updC
    by_cases e : j = 5
    · subst e; rw [if_pos rfl]; trivial
    · rw [if_neg e]
      rw [set_ne e] at hj
      exact h.all j hj
  · rw [e13, h13] at hz; cases hz
  · rw [e5] at h5; cases h5
  · exact ho
  · rw [e11] at hl11
    have := h.ord5 hl11
    rw [hli] at this; cases this
  · rw [e13, h13] at hz; cases hz
theorem InvO.step11 {w W0 W3 : World} {T b off cap : Nat} {c : Cf} {L : JL} {k : Nat} {listed : Array Bool} {v : Nat → Value} {W X : World} (h : InvO w W0 W3 T b off cap c L k listed v W) (hs : listed.size = 14) {u : Value} (h5 : listed[5]? = some true) (hli : listed[11]? = some false) (hb : Below W0.heap.size W0 X) (ho : OwnsC W0.heap.size u (L.eraseIdx k) X) :
    InvO w W0 W3 T b off cap c L k (listed.setIfInBounds 11 true) (updC v 11 u) X := by
  have h13 := h.open13 hs (by omega) hli
  have e13 : (listed.setIfInBounds 11 true)[13]? = listed[13]? := set_ne (by omega) _
  have e5 : (listed.setIfInBounds 11 true)[5]? = listed[5]? := set_ne (by omega) _
  have e11 := set_eq hli
  refine ⟨fun j hj => ?_, fun hz => ?_, fun _ => by rw [e5]; exact h5, fun _ => hb, fun _ _ h5' => ?_, fun _ _ h11 => ?_, fun _ _ => ho, fun hz => ?_⟩
  · unfold updC
    by_cases e : j = 11
    · subst e; rw [if_pos rfl]; trivial
    · rw [if_neg e]
      rw [set_ne e] at hj
      exact h.all j hj
  · rw [e13, h13] at hz; cases hz
  · rw [e5, h5] at h5'; cases h5'
  · rw [e11] at h11; cases h11
  · rw [e13, h13] at hz; cases hz
theorem dueA_lt (t : Int) : ∀ (P : List (Pl × List (Int × Int))) (i : Nat), ∀ x ∈ dueA t P i, x < ((i + P.length : Nat) : Int) := by
  intro P
  induction P with
  | nil => intro i x hx; cases hx
  | cons y P ih =>
    intro i x hx
    unfold dueA at hx
    have hc : (i + (y :: P).length : Nat) = i + 1 + P.length := by rw [List.length_cons]; omega
    rw [hc]
    split at hx
    · rcases List.mem_cons.1 hx with rfl | hx
      · omega
      · exact ih (i + 1) x hx
    · exact ih (i + 1) x hx
theorem oth_drop {k : Int} {V : List Int} {i : Nat} (hi : i < V.length) : othK k (V.drop i) = if V[i] = k then othK k (V.drop (i + 1)) else (if k < V[i] then V[i] - 1 else V[i]) :: othK k (V.drop (i + 1)) := by
  rw [List.drop_eq_getElem_cons hi]; rfl
theorem drop_head {M r : List Int} {a : Nat} {y : Int} (h : M.drop a = y :: r) : ∃ hl : a < M.length, M[a] = y ∧ M.drop (a + 1) = r := by
  have hal : a < M.length := by
    rcases Nat.lt_or_ge a M.length with h' | h'
    · exact h'
    · rw [List.drop_eq_nil_of_le h'] at h; cases h
  rw [List.drop_eq_getElem_cons hal] at h
  exact ⟨hal, (List.cons.inj h).1, (List.cons.inj h).2⟩
end Go.Proofs.YtihadbkjfocdoaaGreatDoor.BW
