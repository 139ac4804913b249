/- What is made wrong in a valid configuration, as plain facts on lists of jobs. -/
import Derived.Test.YtihadbkjfocdoaaGreatDoorCNamesW
namespace Go.Proofs.YtihadbkjfocdoaaGreatDoor.BW
open Go.RowKit BM Go.Shelf MC RK
open BK hiding ret_bool ret_i64

/-- A changed configuration is refused with E, and is another one. -/
structure Flaw (g g' : Gl) (L M : JL) (E : Int) : Prop where
  err : cfE g' M = E
  ne : E ≠ 0
  neq : (glEq g g' && jsEq L M) = false
  few : M.length ≤ 65
theorem CfOk.cap {g : Gl} {L : JL} (h : CfOk g L) : (1 ≤ g.cap ∧ g.cap ≤ 1000) ∧ (1 ≤ g.q ∧ g.q ≤ 1024) ∧ limB g.t g.tau = true := by
  have := h.gl
  simp only [glB, inB, Bool.and_eq_true, decide_eq_true_eq] at this
  obtain ⟨h1, h2, _, _, h5⟩ := this
  exact ⟨h1, h2, h5⟩
theorem flaw0 {g : Gl} {L : JL} (h : CfOk g L) : Flaw g ⟨0, g.q, g.ar, g.ag, g.sd, g.t, g.tau⟩ L L 16 := by
  refine ⟨cfE_g rfl, by decide, ?_, by have := h.many; omega⟩
  have : glEq g ⟨0, g.q, g.ar, g.ag, g.sd, g.t, g.tau⟩ = false := by
    have e : (g.cap == 0) = false := by have := h.cap.1; rw [beq_eq_false_iff_ne]; omega
    simp [glEq, e]
  rw [this]; rfl
theorem flaw1 {g : Gl} {L : JL} (h : CfOk g L) : Flaw g ⟨g.cap, 1025, g.ar, g.ag, g.sd, g.t, g.tau⟩ L L 16 := by
  refine ⟨cfE_g ?_, by decide, ?_, by have := h.many; omega⟩
  · have : inB 1025 1 1024 = false := by decide
    unfold glB
    rw [this]; simp
  · have : glEq g ⟨g.cap, 1025, g.ar, g.ag, g.sd, g.t, g.tau⟩ = false := by
      have e : (g.q == 1025) = false := by have := h.cap.2.1; rw [beq_eq_false_iff_ne]; omega
      simp [glEq, e]
    rw [this]; rfl
theorem flaw2 {g : Gl} {L : JL} (h : CfOk g L) : Flaw g ⟨g.cap, g.q, g.ar, g.ag, g.sd, 0, 1⟩ L L 16 := by
  have hl : limB 0 1 = false := by decide
  refine ⟨cfE_g ?_, by decide, ?_, by have := h.many; omega⟩
  · unfold glB
    simp only
    rw [hl]; simp
  · have : glEq g ⟨g.cap, g.q, g.ar, g.ag, g.sd, 0, 1⟩ = false := by
      rw [← Bool.not_eq_true]
      intro hh
      simp only [glEq, Bool.and_eq_true, beq_iff_eq] at hh
      have h3 := h.cap.2.2
      rw [hh.1.2, hh.2, hl] at h3
      cases h3
    rw [this]; rfl
theorem nms_set {L : JL} {k : Nat} {y : Jb × List (Int × Int)} (h : nmsOk L) (hy : ∀ hk : k < L.length, y.1.nm = L[k].1.nm) : nmsOk (L.set k y) := fun i hi => by
  have hi' : i < L.length := by simpa using hi
  by_cases e : k = i
  · subst e
    rw [List.getElem_set_self, hy hi']; exact h k hi'
  · rw [List.getElem_set_ne e]; exact h i hi'
theorem nm_set {L : JL} {k : Nat} {y : Jb × List (Int × Int)} (hy : ∀ hk : k < L.length, y.1.nm = L[k].1.nm) {i : Nat} (hi : i < (L.set k y).length) (hi' : i < L.length) : (L.set k y)[i].1.nm = L[i].1.nm := by
  by_cases e : k = i
  · subst e
    rw [List.getElem_set_self, hy hi']
  · rw [List.getElem_set_ne e]
theorem new_set {L : JL} {k : Nat} {y : Jb × List (Int × Int)} (h : ∀ i, i < L.length → newN L i) (hy : ∀ hk : k < L.length, y.1.nm = L[k].1.nm) : ∀ i, i < (L.set k y).length → newN (L.set k y) i := fun i hi j hj hi2 hji => by
  have hi' : i < L.length := by simpa using hi
  have hj' : j < L.length := by simpa using hj
  rw [nm_set hy hi2 hi', nm_set hy hj hj']
  exact h i hi' j hj' hi' hji
theorem js_set {L : JL} {k : Nat} (hk : k < L.length) {y : Jb × List (Int × Int)} (h : jbEq L[k] y = false) : jsEq L (L.set k y) = false := by
  refine jsEq_no hk ?_
  rw [pairB_at (x := L[k].1) (l := L[k].2) (y := y.1) (m := y.2) (List.getElem?_eq_getElem hk) (by rw [List.getElem?_set_self hk])]
  exact h
theorem flaw3 {g : Gl} {L : JL} (h : CfOk g L) {k : Nat} (hk : k < L.length) {s : ByteArray} (hs : nameB s = false) : Flaw g g L (L.set k (⟨s, L[k].1.p, L[k].1.y⟩, L[k].2)) 15 := by
  have hm := h.many
  refine ⟨cfE_name h.gl (by rw [List.length_set]; omega) (fun hh => ?_), by decide, ?_, by rw [List.length_set]; omega⟩
  · have := hh k (by rw [List.length_set]; exact hk)
    rw [List.getElem_set_self] at this
    rw [hs] at this; cases this
  · rw [js_set hk, Bool.and_false]
    unfold jbEq
    have : sEq L[k].1.nm s = false := by
      rw [← Bool.not_eq_true]
      intro hh
      have := h.nms k hk
      rw [sEq_iff.1 hh, hs] at this; cases this
    rw [this]; rfl
theorem flaw4 {g : Gl} {L : JL} (h : CfOk g L) {k : Nat} (hk : k < L.length) (h64 : L.length ≠ 64) : Flaw g g L (L ++ [L[k]]) 6 := by
  have hm := h.many
  refine ⟨cfE_have (i := L.length) h.gl (by simp; omega) (fun i hi => ?_) (by simp) (fun hh => ?_), by decide, ?_, by simp; omega⟩
  · rcases Nat.lt_or_ge i L.length with h1 | h1
    · rw [List.getElem_append_left h1]; exact h.nms i h1
    · rw [List.getElem_append_right h1]
      simp only [List.getElem_singleton]
      exact h.nms k hk
  · refine hh k (by simp; omega) (by simp) hk ?_
    rw [List.getElem_append_left hk, List.getElem_append_right (Nat.le_refl _)]
    simp
  · rw [jsEq_len (by simp), Bool.and_false]
theorem plK_9 (p : Pl) : plK ⟨9, p.x, p.z, p.e, p.a, p.n, p.c⟩ = false := by
  simp [plK]
theorem plK_kind {p : Pl} (h : plK p = true) : p.k ≠ 9 := by
  intro e
  unfold plK at h
  rw [e, if_neg (by decide), if_neg (by decide), if_neg (by decide)] at h
  cases h
theorem okJ_parts {x : Jb × List (Int × Int)} (h : okJ x = true) : plE x.1.p x.2 = 0 ∧ poB x.1.y = true := by
  unfold okJ at h
  rw [Bool.and_eq_true, decide_eq_true_eq] at h
  exact h
theorem flaw5 {g : Gl} {L : JL} (h : CfOk g L) {k : Nat} (hk : k < L.length) : Flaw g g L (L.set k (⟨L[k].1.nm, ⟨9, L[k].1.p.x, L[k].1.p.z, L[k].1.p.e, L[k].1.p.a, L[k].1.p.n, L[k].1.p.c⟩, L[k].1.y⟩, L[k].2)) 16 := by
  have hm := h.many
  have hok := okJ_parts (h.all k hk)
  refine ⟨cfE_rule h.gl (by rw [List.length_set]; omega) (nms_set h.nms (fun _ => rfl)) (new_set h.new (fun _ => rfl)) (fun hh => ?_), by decide, ?_, by rw [List.length_set]; omega⟩
  · have := hh k (by rw [List.length_set]; exact hk)
    rw [List.getElem_set_self] at this
    have h2 := (okJ_parts this).1
    unfold plE at h2
    rw [show plK _ = false from plK_9 _] at h2
    cases h2
  · rw [js_set hk, Bool.and_false]
    unfold jbEq eqP
    have : (L[k].1.p.k == 9) = false := by rw [beq_eq_false_iff_ne]; exact plK_kind (plE_ok hok.1).1
    simp only
    rw [this]; simp
theorem flaw6 {g : Gl} {L : JL} (h : CfOk g L) {k : Nat} (hk : k < L.length) : Flaw g g L (L.set k (⟨L[k].1.nm, L[k].1.p, ⟨0, L[k].1.y.pri, L[k].1.y.spl, L[k].1.y.ddl, L[k].1.y.mis, L[k].1.y.keep, L[k].1.y.t, L[k].1.y.tau, L[k].1.y.f, L[k].1.y.o, L[k].1.y.r, L[k].1.y.m, L[k].1.y.b, L[k].1.y.c, L[k].1.y.j⟩⟩, L[k].2)) 16 := by
  have hm := h.many
  have hok := okJ_parts (h.all k hk)
  refine ⟨cfE_rule h.gl (by rw [List.length_set]; omega) (nms_set h.nms (fun _ => rfl)) (new_set h.new (fun _ => rfl)) (fun hh => ?_), by decide, ?_, by rw [List.length_set]; omega⟩
  · have := hh k (by rw [List.length_set]; exact hk)
    rw [List.getElem_set_self] at this
    have h2 := (okJ_parts this).2
    have h3 : inB 0 1 1000 = false := by decide
    unfold poB flB at h2
    simp only at h2
    rw [h3] at h2
    simp at h2
  · rw [js_set hk, Bool.and_false]
    unfold jbEq poEq
    have h1 : (L[k].1.y.cap == 0) = false := by
      have h2 := hok.2
      unfold poB flB inB at h2
      simp only [Bool.and_eq_true, decide_eq_true_eq] at h2
      rw [beq_eq_false_iff_ne]; omega
    simp only
    rw [h1]; simp
theorem flaw7 {g : Gl} {L M : JL} (h : CfOk g L) (hM : M.length = 65) : Flaw g g L M 12 := by
  have hm := h.many
  exact ⟨cfE_many h.gl (by omega), by decide, by rw [jsEq_len (by omega), Bool.and_false], by omega⟩
end Go.Proofs.YtihadbkjfocdoaaGreatDoor.BW
