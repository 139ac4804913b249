/- A copy of a configuration: what holds of it. Walk of ConfigNames. -/
import Derived.Test.YtihadbkjfocdoaaGreatDoorCCopy
import Derived.Test.YtihadbkjfocdoaaGreatDoorCWk
namespace Go.Proofs.YtihadbkjfocdoaaGreatDoor.BW
open Go.RowKit BM Go.Shelf MC RK
open BK hiding ret_bool ret_i64

/-- The same jobs, with other memory. -/
structure SameJ (L L' : JL) : Prop where
  len : L'.length = L.length
  at_ : ∀ k (hk : k < L.length) (hk' : k < L'.length), ∃ a c, L'[k] = (L[k].1.withS a c, L[k].2)
theorem CopyC.same {B : Nat} {W : World} {a : Option Addr} {L L' : JL} (h : CopyC B W a L L') : SameJ L L' := ⟨h.len, fun k hk hk' => by
  obtain ⟨g, _, _, _, h4⟩ := h.at_ (by omega)
  obtain ⟨a', c', h5, _⟩ := h4 k L[k].1 L[k].2 (List.getElem?_eq_getElem hk)
  rw [List.getElem?_eq_getElem hk'] at h5
  injection h5 with h5
  exact ⟨a', c', h5⟩⟩
theorem plE_withS (p : Pl) (a : Option Addr) (c : Nat) (l : List (Int × Int)) : plE (p.withS a c) l = plE p l := rfl
theorem SameJ.ok {L L' : JL} (h : SameJ L L') {g : Gl} (ho : CfOk g L) : CfOk g L' := by
  have hl := h.len
  refine ⟨ho.gl, by have := ho.many; omega, fun k hk => ?_, fun i hi k hk hi' hki => ?_, fun k hk => ?_⟩
  · obtain ⟨a, c, e⟩ := h.at_ k (by omega) hk
    rw [e]; exact ho.nms k (by omega)
  · obtain ⟨a, c, e⟩ := h.at_ k (by omega) hk
    obtain ⟨a2, c2, e2⟩ := h.at_ i (by omega) hi'
    rw [e, e2]; exact ho.new i (by omega) k (by omega) (by omega) hki
  · obtain ⟨a, c, e⟩ := h.at_ k (by omega) hk
    rw [e]
    have := ho.all k (by omega)
    unfold okJ at this ⊢
    exact this
theorem poEq_self (x : Po) : poEq x x = true := by simp [poEq]
theorem glEq_self (x : Gl) : glEq x x = true := by simp [glEq]
theorem jbEq_with (x : Jb) (a : Option Addr) (c : Nat) (l : List (Int × Int)) : jbEq (x, l) (x.withS a c, l) = true := by
  unfold jbEq
  rw [show sEq (x, l).1.nm (x.withS a c, l).1.nm = true from sEq_iff.2 rfl, show poEq (x, l).1.y (x.withS a c, l).1.y = true from poEq_self x.y]
  exact eqP_with x.p a c l
theorem jbEq_with' (x : Jb) (a : Option Addr) (c : Nat) (l : List (Int × Int)) : jbEq (x.withS a c, l) (x, l) = true := by
  unfold jbEq
  rw [show sEq (x.withS a c, l).1.nm (x, l).1.nm = true from sEq_iff.2 rfl, show poEq (x.withS a c, l).1.y (x, l).1.y = true from poEq_self x.y]
  have := eqP_with x.p a c l
  simp only [eqP, Bool.and_eq_true, beq_iff_eq, decide_eq_true_eq, Pl.withS] at this ⊢
  simp [Jb.withS, Pl.withS, xeq, eeq]
theorem SameJ.eq {L L' : JL} (h : SameJ L L') : jsEq L L' = true := jsEq_yes h.len.symm (fun k hk => by
  have hk' : k < L'.length := by rw [h.len]; exact hk
  obtain ⟨a, c, e⟩ := h.at_ k hk hk'
  rw [pairB_at (x := L[k].1) (l := L[k].2) (y := L[k].1.withS a c) (m := L[k].2) (List.getElem?_eq_getElem hk) (by rw [List.getElem?_eq_getElem hk', e])]
  exact jbEq_with _ _ _ _)
theorem SameJ.eq' {L L' : JL} (h : SameJ L L') : jsEq L' L = true := jsEq_yes h.len (fun k hk' => by
  have hk : k < L.length := by rw [← h.len]; exact hk'
  obtain ⟨a, c, e⟩ := h.at_ k hk hk'
  rw [pairB_at (x := L[k].1.withS a c) (l := L[k].2) (y := L[k].1) (m := L[k].2) (by rw [List.getElem?_eq_getElem hk', e]) (List.getElem?_eq_getElem hk)]
  exact jbEq_with' _ _ _ _)
theorem CopyC.jobs {B : Nat} {W : World} {a : Option Addr} {L L' : JL} (h : CopyC B W a L L') (hp : ∀ k (hk : k < L.length), U64s L[k].1.p.x ∧ L[k].2.length = L[k].1.p.n) : JobsAt W a L' := fun k hk' => by
  have hk : k < L.length := by rw [← h.len]; exact hk'
  obtain ⟨g, h1, _, h3, h4⟩ := h.at_ (by omega)
  obtain ⟨a', c', h5, h6⟩ := h4 k L[k].1 L[k].2 (List.getElem?_eq_getElem hk)
  rw [List.getElem?_eq_getElem hk'] at h5
  injection h5 with h5
  refine ⟨g, 0, h1, fun i hi => by rw [Nat.zero_add]; exact (h3 k hk' i hi).1, ?_⟩
  rw [h5]
  obtain ⟨ad, cap, e, hs⟩ := h6.shape
  injection e with e1 _ _
  subst e1
  exact ⟨(hp k hk).1, (hp k hk).2, hs⟩
/-- A copy may be asked all that the configuration may. -/
theorem CArg.copy {B : Nat} {W : World} {c : Cf} {a : Option Addr} {cap : Nat} {L L' : JL} (hA : CArg W c L) (h : CopyC B W a L L') : CArg W ⟨c.g, a, c.n, cap⟩ L' :=
  ⟨⟨h.len.trans hA.in_.n, h.jobs (fun k hk => by obtain ⟨_, _, _, _, hp⟩ := hA.in_.at_ k hk; exact ⟨hp.x, hp.n⟩), hA.in_.sd⟩, hA.n9, fun k hk' => by
    have hk : k < L.length := by rw [← h.len]; exact hk'
    obtain ⟨a', c', e⟩ := h.same.at_ k hk hk'
    rw [e]; exact hA.p9 k hk, hA.st, hA.tab⟩
theorem CArg.eqa {W : World} {c : Cf} {L : JL} (h : CArg W c L) : EqA W c.a c.n L := ⟨h.in_.n, h.in_.at_, h.p9⟩
theorem fdX_step {L : JL} {s : ByteArray} {k : Nat} (hk : k < L.length) : decide (fdX L s < k + 1) = (decide (fdX L s < k) || sEq L[k].1.nm s) := by
  by_cases h : fdX L s < k
  · rw [decide_eq_true h, decide_eq_true (by omega)]; rfl
  · rw [decide_eq_false h, Bool.false_or]
    by_cases hs : sEq L[k].1.nm s = true
    · rw [hs]
      have : fdX L s ≤ k := by
        rcases Nat.lt_or_ge k (fdX L s) with h' | h'
        · have := List.not_of_lt_findIdx (p := fun x : Jb × List (Int × Int) => sEq x.1.nm s) (xs := L) h'
          rw [hs] at this; simp at this
        · exact h'
      exact decide_eq_true (by omega)
    · rw [Bool.not_eq_true] at hs
      rw [hs]
      refine decide_eq_false (fun h' => ?_)
      have e : fdX L s = k := by omega
      have hlt : fdX L s < L.length := by omega
      have := List.findIdx_getElem (p := fun x : Jb × List (Int × Int) => sEq x.1.nm s) (xs := L) (w := hlt)
      have e2 : L[L.findIdx fun x => sEq x.1.nm s] = L[k] := by congr 1
      rw [e2] at this
      rw [hs] at this
      cases this
theorem fd_self {g : Gl} {L : JL} (h : CfOk g L) {k : Nat} (hk : k < L.length) : fdI L L[k].1.nm = k ∧ fdB L L[k].1.nm = true := by
  have e : fdX L L[k].1.nm = k := fdX_at hk (sEq_iff.2 rfl) (fun i hi hik => by
    rw [← Bool.not_eq_true]
    intro hh
    exact h.new k hk i hi hk hik (sEq_iff.1 hh))
  unfold fdI fdB
  rw [e, if_pos hk]
  exact ⟨rfl, decide_eq_true hk⟩
/-- A law's configuration in its box. -/
structure LwC (w : World) (c : Cf) (L : JL) (W : World) : Prop where
  box : Blk W w.heap.size 29 (cfV c)
  arg : CArg W c L
  below : Below w.heap.size w W
theorem LwC.next {w : World} {c : Cf} {L : JL} {X Y : World} (h : LwC w c L X) (hb : Below X.heap.size X Y) : LwC w c L Y := ⟨h.box.below hb h.box.lt, h.arg.below hb, h.below.trans (hb.mono h.below.size)⟩
theorem LwC.cells {w : World} {c : Cf} {L : JL} {W : World} (h : LwC w c L W) : W.cell? ⟨w.heap.size, 0, none⟩ = some (.int .i64 c.g.cap) ∧ W.cell? ⟨w.heap.size, 1, none⟩ = some (.int .i64 c.g.q) ∧ W.cell? ⟨w.heap.size, 2, none⟩ = some (.int .i64 c.g.ar) ∧ W.cell? ⟨w.heap.size, 3, none⟩ = some (.int .i64 c.g.ag) ∧ W.cell? ⟨w.heap.size, 4, none⟩ = some (.int .u64 c.g.sd) ∧ W.cell? ⟨w.heap.size, 5, none⟩ = some (.int .i64 c.g.t) ∧ W.cell? ⟨w.heap.size, 6, none⟩ = some (.int .i64 c.g.tau) ∧ W.cell? ⟨w.heap.size, 7, none⟩ = some (.slice c.a c.n c.c) :=
  ⟨h.box.cell 0, h.box.cell 1, h.box.cell 2, h.box.cell 3, h.box.cell 4, h.box.cell 5, h.box.cell 6, h.box.cell 7⟩
end Go.Proofs.YtihadbkjfocdoaaGreatDoor.BW
