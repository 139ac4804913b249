/- What Made makes is a valid configuration; moves. -/
import Derived.Test.YtpgckpafjiojfaaGreatDoorAHe
namespace Go.Proofs.YtpgckpafjiojfaaGreatDoor.AD
open Go Go.RowKit BW
open BK (Bx BoxAt Blk only_refl only_drew only_drewN only_setCell only_trans only_of_below only_alloc below_drewN)
theorem sm_lim {t tau : Nat} : limB (smT t) (smA t tau) = true := by
  unfold limB inB smT smA
  by_cases h : t % 8 = 0
  · rw [if_pos h]
    have e : (t : Int) % 8 = 0 := by omega
    rw [e]
    decide
  · rw [if_neg h]
    simp only [Bool.and_eq_true, Bool.or_eq_true, decide_eq_true_eq, beq_iff_eq]
    omega
theorem madeFrom_get : ∀ (rs : List Rl) (i k : Nat) (r : Rl), rs[k]? = some r → (madeFrom i rs)[k]? = some (jbR (i + k) r, []) := by
  intro rs
  induction rs with
  | nil => intro i k r h; simp at h
  | cons a l ih =>
    intro i k r h
    cases k with
    | zero =>
      simp at h
      subst h
      rfl
    | succ k =>
      have := ih (i + 1) k r (by simpa using h)
      rw [show i + 1 + k = i + (k + 1) by omega] at this
      simpa [madeFrom] using this
theorem made_at {rs : List Rl} {k : Nat} (hk : k < (madeFrom 0 rs).length) : ∃ r, rs[k]? = some r ∧ (madeFrom 0 rs)[k] = (jbR k r, []) := by
  have hk2 : k < rs.length := by rwa [madeFrom_len] at hk
  refine ⟨rs[k], List.getElem?_eq_getElem hk2, ?_⟩
  have := madeFrom_get rs 0 k rs[k] (List.getElem?_eq_getElem hk2)
  rw [List.getElem?_eq_getElem hk, Nat.zero_add] at this
  exact Option.some.inj this
theorem nmR_data : ∀ k i : Fin 4, (nmR k.val).data = (nmR i.val).data → k = i := by decide +kernel
theorem nmR_ok : ∀ k : Fin 4, nameB (nmR k.val) = true := by decide +kernel
theorem polR_ok (r : Rl) : poB (polR r) = true := by
  have h1 := sm_lim (t := r.t) (tau := r.tau)
  unfold poB flB misB rtyB
  have h2 : brkB (polR r).f (polR r).o (polR r).r = true := by
    unfold brkB inB polR
    by_cases h : r.fa % 4 = 0
    · simp [h]
    · simp only [h, if_false, Bool.or_eq_true, Bool.and_eq_true, decide_eq_true_eq, beq_iff_eq]
      right
      omega
  have h3 : limB (polR r).t (polR r).tau = true := h1
  rw [h2, h3]
  have h4 : inB (polR r).cap 1 1000 = true := by
    unfold inB polR
    simp only [Bool.and_eq_true, decide_eq_true_eq]
    omega
  rw [h4]
  rfl
theorem made_cfok (rs : List Rl) (h4 : rs.length ≤ 4) (lim tau most : Nat) : CfOk (madeG lim tau most) (madeFrom 0 rs) where
  gl := by
    have h1 := sm_lim (t := lim) (tau := tau)
    unfold glB
    have h3 : limB (madeG lim tau most).t (madeG lim tau most).tau = true := h1
    rw [h3]
    have h5 : inB (madeG lim tau most).cap 1 1000 = true := by
      unfold inB madeG
      simp only [Bool.and_eq_true, decide_eq_true_eq]
      omega
    rw [h5]
    rfl
  many := by rw [madeFrom_len]; omega
  nms := fun k hk => by
    obtain ⟨r, hr, e⟩ := made_at hk
    rw [e]
    have : k < rs.length := (List.getElem?_eq_some_iff.1 hr).1
    exact nmR_ok ⟨k, by omega⟩
  new := fun i hi k hk _ hki => by
    obtain ⟨r, hr, e⟩ := made_at hk
    obtain ⟨s, hs, e'⟩ := made_at hi
    rw [e, e']
    have h1 : i < rs.length := (List.getElem?_eq_some_iff.1 hs).1
    intro h
    have h2 : nmR k = nmR i := h
    have := nmR_data ⟨k, by omega⟩ ⟨i, by omega⟩ (congrArg ByteArray.data h2)
    injection this with this
    omega
  all := fun k hk => by
    obtain ⟨r, hr, e⟩ := made_at hk
    rw [e]
    unfold okJ
    have h1 : plE (jbR k r).p [] = 0 := (show plE plE0 [] = 0 by decide +kernel)
    have h2 : poB (jbR k r).y = true := polR_ok r
    show (decide (plE (jbR k r).p [] = 0) && poB (jbR k r).y) = true
    rw [h2, decide_eq_true h1]
    rfl
theorem made_jobs {B : Nat} {W : World} {a : Option Addr} {n c : Nat} {rs : List Rl} (h : OwnsC B (.slice a n c) (madeFrom 0 rs) W) : JobsAt W a (madeFrom 0 rs) := fun k hk => by
  obtain ⟨a2, c2, e, h1, h2⟩ := h.shape
  injection e with e1 e2 e3
  obtain ⟨g, hg⟩ := h2 (by omega)
  subst e1
  rw [hg] at h
  refine ⟨g, 0, hg, fun i hi => ?_, ?_⟩
  · rw [Nat.zero_add]; exact h.cell k i hk hi
  · obtain ⟨r, hr, e⟩ := made_at hk
    rw [e]
    exact pin0 u64_zero rfl
theorem made_arg {B : Nat} {W : World} {a : Option Addr} {n c lim tau most : Nat} {rs : List Rl} (h : OwnsC B (.slice a n c) (madeFrom 0 rs) W) (hn : rs.length = n) (h4 : n ≤ 4) (h1 : SpTab W) (h2 : Tab W) : CArg W ⟨madeG lim tau most, a, n, c⟩ (madeFrom 0 rs) :=
  ⟨⟨by rw [madeFrom_len]; exact hn, made_jobs h, (show (0 : Nat) < 18446744073709551616 by decide)⟩, Nat.le_trans h4 (by decide), fun k hk => by
    obtain ⟨r, hr, e⟩ := made_at hk
    rw [e]
    exact Nat.zero_le _, h1, h2⟩
/-- Moves as they come in. -/
structure Mv where
  ah : Nat
  job : Nat
  kind : Nat
def Mv.ok (m : Mv) : Prop := m.ah < 256 ∧ m.job < 256 ∧ m.kind < 256
def mvC (m : Mv) : Array Value := #[.int .u8 m.ah, .int .u8 m.job, .int .u8 m.kind]
def MovesAt (W : World) (a : Option Addr) (ms : List Mv) : Prop := ∀ k (hk : k < ms.length), ∃ b off, a = some ⟨b, off, none⟩ ∧ (∀ i, i < 3 → W.cell? ⟨b, off + k * 3 + i, none⟩ = (mvC ms[k])[i]?) ∧ ms[k].ok
theorem MovesAt.below {W W' : World} {a : Option Addr} {ms : List Mv} (h : MovesAt W a ms) (hb : Below W.heap.size W W') : MovesAt W' a ms := fun k hk => by
  obtain ⟨b, off, e, h1, h2⟩ := h k hk
  refine ⟨b, off, e, fun i hi => ?_, h2⟩
  have hc := h1 i hi
  obtain ⟨v, hv⟩ : ∃ v, (mvC ms[k])[i]? = some v := ⟨_, Array.getElem?_eq_getElem (show i < (mvC ms[k]).size from hi)⟩
  rw [hv] at hc ⊢
  exact (hb.cell (p := ⟨b, off + k * 3 + i, none⟩) (World.block_lt_of_cell? W _ hc)).trans hc
end Go.Proofs.YtpgckpafjiojfaaGreatDoor.AD
