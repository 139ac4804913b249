/- The walk of wakemanlaw35.AdmitReasons. -/
import Derived.Test.YtmbnmfcjbbfkoaaGreatDoorAHf
namespace Go.Proofs.YtmbnmfcjbbfkoaaGreatDoor.AD
open Go Go.RowKit BW
open BK (Bx BoxAt Blk only_refl only_drew only_drewN only_setCell only_trans only_of_below only_alloc below_drewN)
theorem bk_check {x : Bx} {now : Int} (h : x.last ≤ now) (ht : 0 ≤ now ∧ now ≤ 253402300799) : BK.check x now = 0 := by
  unfold BK.check BK.maxTime
  rw [if_neg (by omega), if_neg (by omega)]
theorem bk_report_last {x : Bx} {ok : Bool} {now : Int} (h : BK.check x now = 0) : (BK.report x ok now).2.1 = 0 ∧ (BK.report x ok now).2.2.last = now := by
  unfold BK.report
  rw [if_neg (by rw [h]; simp)]
  by_cases hf : x.f = 0
  · rw [if_pos hf]; exact ⟨rfl, rfl⟩
  · rw [if_neg hf]
    refine ⟨rfl, ?_⟩
    unfold BK.ended
    split
    · unfold BK.closed
      split
      · rfl
      · split <;> rfl
    · split
      · rfl
      · unfold BK.half
        split
        · rfl
        · split
          · rfl
          · split <;> rfl
theorem bk_take_last {x : Bx} {now : Int} (h : BK.check x now = 0) (ha : BK.allows x now = true) : (BK.take x now).1 = 0 ∧ (BK.take x now).2.last = now := by
  unfold BK.take
  rw [if_neg (by rw [h]; simp), if_neg (by rw [ha]; simp)]
  exact ⟨rfl, rfl⟩
/-- The gate of one job, two limiters and a box beside it, the configuration and the policy. -/
structure RsI (B T n : Nat) (w0 : World) (L : Ly) (al ol ob cb pb : Nat) (cf : Cf) (y : Po) (x : Gt) (m l : Lm) (bx : Bx) (W : World) : Prop where
  g : GAt W L x
  len : x.js.length = n
  a : LmAt W al m
  o : LmAt W ol l
  b : BoxAt W ob bx
  c : Blk W cb 32 (cfV cf)
  p : Blk W pb 47 (poV y)
  ne : al ≠ ol
  lo : T ≤ al ∧ T ≤ ol ∧ T ≤ ob ∧ B ≤ T
  sup : ∀ i, L.sup n i → i < T
  own : ∀ i, L.own n i → B ≤ i
  bel : Below B w0 W
  le : B ≤ w0.heap.size
section
variable {B T n : Nat} {w0 : World} {L : Ly} {al ol ob cb pb : Nat} {cf : Cf} {y : Po} {x x' : Gt} {m l m' : Lm} {bx bx' : Bx} {W W' : World}
theorem RsI.below (h : RsI B T n w0 L al ol ob cb pb cf y x m l bx W) (hb : Below W.heap.size W W') : RsI B T n w0 L al ol ob cb pb cf y x m l bx W' :=
  ⟨h.g.below hb, h.len, Blk.below h.a hb (Blk.lt h.a), Blk.below h.o hb (Blk.lt h.o), Blk.below h.b hb (Blk.lt h.b), h.c.below hb h.c.lt, h.p.below hb h.p.lt, h.ne, h.lo, h.sup, h.own, h.bel.trans (hb.mono (Nat.le_trans h.le h.bel.size)), h.le⟩
theorem RsI.drewN (h : RsI B T n w0 L al ol ob cb pb cf y x m l bx W) (d : Nat) : RsI B T n w0 L al ol ob cb pb cf y x m l bx (W.drewN d) := h.below (below_drewN (Below.refl _ _) d)
theorem RsI.turn (h : RsI B T n w0 L al ol ob cb pb cf y x m l bx W) (hg : GAt W' L x') (ht : Turn (L.own x.js.length) W W') (hn : x'.js.length = x.js.length) : RsI B T n w0 L al ol ob cb pb cf y x' m l bx W' := by
  have hk := h.g.keeps ht
  rw [h.len] at ht hn
  have fr : ∀ {b : Nat} {t : TypeId} {cs : Array Value}, Blk W b t cs → T ≤ b → Blk W' b t cs := fun {b} _ _ hb hT => (ht.block b hb.lt fun ho => by have := h.sup b (.inl ho); omega).trans hb
  exact ⟨hg, hn, fr h.a h.lo.1, fr h.o h.lo.2.1, fr h.b h.lo.2.2.1, hk _ _ _ h.c (by decide) (by decide) (by decide) (by decide), hk _ _ _ h.p (by decide) (by decide) (by decide) (by decide), h.ne, h.lo, h.sup, h.own, ht.below h.own h.bel h.le, h.le⟩
theorem RsI.setA (h : RsI B T n w0 L al ol ob cb pb cf y x m l bx W) (ha : LmAt W' al m') (hg : W.grownBy W' (some al)) : RsI B T n w0 L al ol ob cb pb cf y x m' l bx W' :=
  ⟨h.g.keep fun i hi => hg.block i (h.g.lt hi) (some_ne (by have := h.sup i (by rw [← h.len]; exact hi); have := h.lo; omega)), h.len, ha, Blk.grown h.o hg (some_ne h.ne.symm), Blk.grown h.b hg (some_ne (blk_ne h.b h.a (by decide))), Blk.grown h.c hg (some_ne (blk_ne h.c h.a (by decide))), Blk.grown h.p hg (some_ne (blk_ne h.p h.a (by decide))), h.ne, h.lo, h.sup, h.own, h.bel.grown hg (Nat.le_trans h.le h.bel.size) (fun k e => by injection e with e; have := h.lo; omega), h.le⟩
theorem RsI.setO (h : RsI B T n w0 L al ol ob cb pb cf y x m l bx W) (ha : LmAt W' ol m') (hg : W.grownBy W' (some ol)) : RsI B T n w0 L al ol ob cb pb cf y x m m' bx W' :=
  ⟨h.g.keep fun i hi => hg.block i (h.g.lt hi) (some_ne (by have := h.sup i (by rw [← h.len]; exact hi); have := h.lo; omega)), h.len, Blk.grown h.a hg (some_ne h.ne), ha, Blk.grown h.b hg (some_ne (blk_ne h.b h.o (by decide))), Blk.grown h.c hg (some_ne (blk_ne h.c h.o (by decide))), Blk.grown h.p hg (some_ne (blk_ne h.p h.o (by decide))), h.ne, h.lo, h.sup, h.own, h.bel.grown hg (Nat.le_trans h.le h.bel.size) (fun k e => by injection e with e; have := h.lo; omega), h.le⟩
theorem RsI.setB (h : RsI B T n w0 L al ol ob cb pb cf y x m l bx W) (ha : BoxAt W' ob bx') (hg : W.grownBy W' (some ob)) : RsI B T n w0 L al ol ob cb pb cf y x m l bx' W' :=
  ⟨h.g.keep fun i hi => hg.block i (h.g.lt hi) (some_ne (by have := h.sup i (by rw [← h.len]; exact hi); have := h.lo; omega)), h.len, Blk.grown h.a hg (some_ne (blk_ne h.a h.b (by decide))), Blk.grown h.o hg (some_ne (blk_ne h.o h.b (by decide))), ha, Blk.grown h.c hg (some_ne (blk_ne h.c h.b (by decide))), Blk.grown h.p hg (some_ne (blk_ne h.p h.b (by decide))), h.ne, h.lo, h.sup, h.own, h.bel.grown hg (Nat.le_trans h.le h.bel.size) (fun k e => by injection e with e; have := h.lo; omega), h.le⟩
end
/-- What the loop keeps: the gate is made of the objects beside it. -/
structure RsK (x : Gt) (m l : Lm) (bx : Bx) (c1 runs now : Int) : Prop where
  both : x.both = m
  js : x.js = [⟨c1, runs, l, bx⟩]
  last : x.last ≤ now
  ml : m.last ≤ now
  ll : l.last ≤ now
  bl : bx.last ≤ now
  now : 0 ≤ now
  runs : 0 ≤ runs ∧ runs ≤ 1000
section
variable {x : Gt} {m l : Lm} {bx : Bx} {c1 runs now : Int}
theorem RsK.job (h : RsK x m l bx c1 runs now) : x.job 0 = some ⟨c1, runs, l, bx⟩ := by unfold Gt.job; rw [h.js]; rfl
theorem RsK.total (h : RsK x m l bx c1 runs now) : x.total = runs := by unfold Gt.total; rw [h.js]; simp [sumR]
theorem RsK.call (h : RsK x m l bx c1 runs now) {t : Int} (h1 : now ≤ t) (h2 : t ≤ 253402300799) : x.call 0 t = 0 := by
  have hn := h.now
  have hl := h.last
  unfold Gt.call Gt.asked
  have ht : timeB t = true := timeB_iff.2 ⟨by omega, h2⟩
  rw [ht, h.js]
  simp
  omega
def wantB (x : Gt) (m l : Lm) (bx : Bx) (c1 runs t : Int) : Int := ((partN (decide (x.cap ≤ runs)) (!m.allows t) (decide (c1 ≤ runs)) (!l.allows t) (!BK.allows bx t) 5 : Nat) : Int)
theorem RsK.whyJ (h : RsK x m l bx c1 runs now) (t : Int) : x.whyJ ⟨c1, runs, l, bx⟩ t = wantB x m l bx c1 runs t := by
  rw [whyJ_part, h.total, h.both]
  rfl
theorem RsK.Why (h : RsK x m l bx c1 runs now) {t : Int} (h1 : now ≤ t) (h2 : t ≤ 253402300799) : x.Why 0 t = (wantB x m l bx c1 runs t, 0) := by
  unfold Gt.Why Gt.why
  rw [if_neg (by rw [h.call h1 h2]; simp), h.job]
  simp only
  rw [h.whyJ]
theorem RsK.give (h : RsK x m l bx c1 runs now) (ok : Bool) {t : Int} (h1 : now ≤ t) (h2 : t ≤ 253402300799) (hr : 0 < runs) :
    ∃ y, x.give 0 ok t = ((BK.report bx ok t).1, 0, y) ∧ RsK y m l (BK.report bx ok t).2.2 c1 (runs - 1) t ∧ (BK.report bx ok t).2.1 = 0 ∧ y.cap = x.cap := by
  have hn := h.now
  have hrr := h.runs
  have hc := bk_check (x := bx) (now := t) (by have := h.bl; omega) ⟨by omega, h2⟩
  obtain ⟨r1, r2⟩ := bk_report_last (ok := ok) hc
  refine ⟨⟨x.cap, x.both, x.js.set 0 ⟨c1, runs - 1, l, (BK.report bx ok t).2.2⟩, t⟩, ?_, ⟨h.both, by show x.js.set 0 _ = _; rw [h.js]; rfl, Int.le_refl _, by have := h.ml; omega, by have := h.ll; omega, by rw [r2]; exact Int.le_refl _, by omega, by omega⟩, r1, rfl⟩
  · unfold Gt.give
    rw [if_neg (by rw [h.call h1 h2]; simp), h.job]
    simp only
    rw [if_neg (by omega), r1]
    rfl
theorem RsK.take (h : RsK x m l bx c1 runs now) {t : Int} (h1 : now ≤ t) (h2 : t ≤ 253402300799) :
    (wantB x m l bx c1 runs t ≠ 0 → x.take 0 t = (9, x)) ∧ (wantB x m l bx c1 runs t = 0 → c1 ≤ 1000 → ∃ y, x.take 0 t = (0, y) ∧ RsK y (m.count t) (l.count t) (BK.take bx t).2 c1 (runs + 1) t ∧ m.take t = (0, m.count t) ∧ l.take t = (0, l.count t) ∧ (BK.take bx t).1 = 0 ∧ y.cap = x.cap) := by
  have hn := h.now
  have hw := h.whyJ t
  constructor
  · intro hne
    unfold Gt.take
    rw [if_neg (by rw [h.call h1 h2]; simp), h.job]
    simp only
    rw [if_pos (by rw [hw]; exact hne)]
  · intro he hc1
    have hz := whyJ_zero (hw.trans he)
    obtain ⟨z1, z2, z3, z4, z5⟩ := hz
    rw [h.both] at z2
    have hc := bk_check (x := bx) (now := t) (by have := h.bl; omega) ⟨by omega, h2⟩
    obtain ⟨r1, r2⟩ := bk_take_last hc z5
    refine ⟨x.took 0 ⟨c1, runs, l, bx⟩ t, ?_, ?_, Lm.take_ok z2, Lm.take_ok z4, r1, rfl⟩
    · unfold Gt.take
      rw [if_neg (by rw [h.call h1 h2]; simp), h.job]
      simp only
      rw [if_neg (by rw [hw, he]; simp)]
    · have hrr := h.runs
      have z3' : runs < c1 := z3
      exact ⟨by unfold Gt.took; simp only; rw [h.both], by unfold Gt.took; simp only; rw [h.js]; rfl, Int.le_refl _, Int.le_refl _, Int.le_refl _, by rw [r2]; exact Int.le_refl _, by omega, by omega⟩
theorem RsK.later (h : RsK x m l bx c1 runs now) {t : Int} (h1 : now ≤ t) : RsK x m l bx c1 runs t :=
  ⟨h.both, h.js, Int.le_trans h.last h1, Int.le_trans h.ml h1, Int.le_trans h.ll h1, Int.le_trans h.bl h1, Int.le_trans h.now h1, h.runs⟩
end
end Go.Proofs.YtmbnmfcjbbfkoaaGreatDoor.AD
