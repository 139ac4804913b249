/- Two gates: a job of many, and the job alone. -/
import Derived.Test.YtmbnmfcjbbfkoaaGreatDoorAHn
namespace Go.Proofs.YtmbnmfcjbbfkoaaGreatDoor.AD
open Go Go.RowKit BW
open BK (Bx BoxAt Blk only_refl only_drew only_drewN only_setCell only_trans only_of_below only_alloc below_drewN)
structure OtK (x y : Gt) (k m : Nat) (j : Jt) (now : Int) : Prop where
  job : x.js[k]? = some j
  one : y.js = [j]
  xc : x.cap = 1000
  yc : y.cap = 1000
  xb : x.both.t = 0 ∧ x.both.last ≤ now
  yb : y.both.t = 0 ∧ y.both.last ≤ now
  xl : x.last ≤ now
  yl : y.last ≤ now
  small : ∀ i ∈ x.js, i.cap ≤ 4
  n : x.js.length = m
  m4 : m ≤ 4
  km : k < m
theorem sumR_le : ∀ (l : List Jt), (∀ j ∈ l, j.runs ≤ 4) → sumR l ≤ 4 * (l.length : Int) := by
  intro l
  induction l with
  | nil => intro _; exact Int.le_refl _
  | cons a l ih =>
    intro h
    have h1 := ih fun j hj => h j (List.mem_cons_of_mem _ hj)
    have h2 := h a List.mem_cons_self
    show a.runs + sumR l ≤ 4 * (((l.length + 1 : Nat)) : Int)
    omega
theorem lm_free {l : Lm} {t : Int} (h : l.t = 0) (hl : l.last ≤ t) (h0 : 0 ≤ t) (h9 : t ≤ 253402300799) : l.allows t = true ∧ l.nextT t = t := by
  have he : ∀ s, l.early s = false := fun s => by unfold Lm.early; rw [h]; rfl
  constructor
  · unfold Lm.allows Lm.check
    rw [timeB_iff.2 ⟨h0, h9⟩]
    simp only [Bool.true_eq_false, if_false, decide_eq_true_eq]
    rw [if_neg (by simp; intro _; omega), he]
    rfl
  · unfold Lm.nextT
    split
    · rfl
    · rw [he]
      simp
      omega
section
variable {x y : Gt} {k m : Nat} {j : Jt} {now t : Int}
theorem OtK.call (h : OtK x y k m j now) (ht : now ≤ t) (h0 : 0 ≤ t) (h9 : t ≤ 253402300799) : x.call k t = 0 ∧ y.call 0 t = 0 := by
  have h1 := h.xl
  have h2 := h.yl
  have h3 := h.km
  have h4 := h.n
  have hb : timeB t = true := timeB_iff.2 ⟨h0, h9⟩
  constructor
  · unfold Gt.call Gt.asked
    rw [hb]
    simp
    omega
  · unfold Gt.call Gt.asked
    rw [hb, h.one]
    simp
    omega
theorem OtK.xjob (h : OtK x y k m j now) : x.job k = some j := by unfold Gt.job; rw [Int.toNat_natCast]; exact h.job
theorem OtK.yjob (h : OtK x y k m j now) : y.job 0 = some j := by unfold Gt.job; rw [h.one]; rfl
theorem OtK.later (h : OtK x y k m j now) (ht : now ≤ t) : OtK x y k m j t := ⟨h.job, h.one, h.xc, h.yc, ⟨h.xb.1, Int.le_trans h.xb.2 ht⟩, ⟨h.yb.1, Int.le_trans h.yb.2 ht⟩, Int.le_trans h.xl ht, Int.le_trans h.yl ht, h.small, h.n, h.m4, h.km⟩
theorem OtK.room (h : OtK x y k m j now) (hi : x.Inv) : x.total < x.cap ∧ y.total < y.cap := by
  have hr : ∀ i ∈ x.js, i.runs ≤ 4 := fun i hm => by have h1 := (hi.js i hm).2.1.2; have h2 := h.small i hm; omega
  have hs := sumR_le x.js hr
  have hj := hr j (List.mem_of_getElem? h.job)
  have h4 := h.m4
  rw [h.n] at hs
  rw [h.xc, h.yc]
  unfold Gt.total
  rw [h.one]
  simp only [sumR]
  omega
theorem OtK.why (h : OtK x y k m j now) (hi : x.Inv) (ht : now ≤ t) (h0 : 0 ≤ t) (h9 : t ≤ 253402300799) : x.whyJ j t = y.whyJ j t := by
  obtain ⟨r1, r2⟩ := h.room hi
  have a1 := (lm_free h.xb.1 (Int.le_trans h.xb.2 ht) h0 h9).1
  have a2 := (lm_free h.yb.1 (Int.le_trans h.yb.2 ht) h0 h9).1
  unfold Gt.whyJ
  rw [a1, a2, decide_eq_false (p := x.cap ≤ x.total) (by omega), decide_eq_false (p := y.cap ≤ y.total) (by omega)]
theorem OtK.put (h : OtK x y k m j now) (_ : now ≤ t) {j' : Jt} (hc : j'.cap = j.cap) {a b : Lm} (ha : a.t = 0 ∧ a.last ≤ t) (hb : b.t = 0 ∧ b.last ≤ t) : OtK ⟨x.cap, a, x.js.set k j', t⟩ ⟨y.cap, b, [j'], t⟩ k m j' t :=
  ⟨by show (x.js.set k j')[k]? = some j'; rw [List.getElem?_set_self (by rw [h.n]; exact h.km)], rfl, h.xc, h.yc, ha, hb, Int.le_refl _, Int.le_refl _, fun i hi => by
    rcases List.mem_or_eq_of_mem_set hi with h' | rfl
    · exact h.small i h'
    · rw [hc]; exact h.small j (List.mem_of_getElem? h.job), by show (x.js.set k j').length = m; rw [List.length_set]; exact h.n, h.m4, h.km⟩
theorem OtK.other (h : OtK x y k m j now) (ht : now ≤ t) {i : Nat} (hik : i ≠ k) {j' i0 : Jt} (h0 : x.js[i]? = some i0) (hc : j'.cap = i0.cap) {a : Lm} (ha : a.t = 0 ∧ a.last ≤ t) : OtK ⟨x.cap, a, x.js.set i j', t⟩ y k m j t :=
  ⟨by show (x.js.set i j')[k]? = some j; rw [List.getElem?_set_ne hik]; exact h.job, h.one, h.xc, h.yc, ha, ⟨h.yb.1, Int.le_trans h.yb.2 ht⟩, Int.le_refl _, Int.le_trans h.yl ht, fun i hi => by
    rcases List.mem_or_eq_of_mem_set hi with h' | rfl
    · exact h.small i h'
    · rw [hc]; exact h.small i0 (List.mem_of_getElem? h0), by show (x.js.set i j').length = m; rw [List.length_set]; exact h.n, h.m4, h.km⟩
theorem OtK.give (h : OtK x y k m j now) (ht : now ≤ t) (h0 : 0 ≤ t) (h9 : t ≤ 253402300799) (ok : Bool) : ∃ ev er x' y' j', x.give k ok t = (ev, er, x') ∧ y.give 0 ok t = (ev, er, y') ∧ OtK x' y' k m j' t := by
  obtain ⟨c1, c2⟩ := h.call ht h0 h9
  unfold Gt.give
  rw [if_neg (by rw [c1]; simp), if_neg (by rw [c2]; simp), h.xjob, h.yjob]
  simp only
  by_cases hr : j.runs = 0
  · rw [if_pos hr, if_pos hr]
    exact ⟨_, _, _, _, _, rfl, rfl, h.later ht⟩
  · rw [if_neg hr, if_neg hr]
    refine ⟨_, _, _, _, ⟨j.cap, j.runs - 1, j.lm, (BK.report j.bx ok t).2.2⟩, rfl, rfl, ?_⟩
    have := h.put ht (j' := ⟨j.cap, j.runs - 1, j.lm, (BK.report j.bx ok t).2.2⟩) rfl (h.later ht).xb (h.later ht).yb
    rw [h.one]
    exact this
theorem OtK.take (h : OtK x y k m j now) (hi : x.Inv) (ht : now ≤ t) (h0 : 0 ≤ t) (h9 : t ≤ 253402300799) : ∃ er x' y' j', x.take k t = (er, x') ∧ y.take 0 t = (er, y') ∧ OtK x' y' k m j' t := by
  obtain ⟨c1, c2⟩ := h.call ht h0 h9
  have hw := h.why hi ht h0 h9
  unfold Gt.take
  rw [if_neg (by rw [c1]; simp), if_neg (by rw [c2]; simp), h.xjob, h.yjob]
  simp only
  by_cases hr : x.whyJ j t ≠ 0
  · rw [if_pos hr, if_pos (by rw [← hw]; exact hr)]
    exact ⟨_, _, _, _, rfl, rfl, h.later ht⟩
  · rw [if_neg hr, if_neg (by rw [← hw]; exact hr)]
    refine ⟨_, _, _, ⟨j.cap, j.runs + 1, j.lm.count t, (BK.take j.bx t).2⟩, rfl, rfl, ?_⟩
    have := h.put ht (j' := ⟨j.cap, j.runs + 1, j.lm.count t, (BK.take j.bx t).2⟩) rfl (a := x.both.count t) (b := y.both.count t) ⟨h.xb.1, Int.le_refl _⟩ ⟨h.yb.1, Int.le_refl _⟩
    unfold Gt.took
    rw [h.one]
    exact this
theorem OtK.giveO (h : OtK x y k m j now) (ht : now ≤ t) {i : Nat} (hik : i ≠ k) (ok : Bool) : OtK (x.give i ok t).2.2 y k m j t := by
  unfold Gt.give
  split
  · exact h.later ht
  · split
    · next i0 h0 =>
      split
      · exact h.later ht
      · unfold Gt.job at h0
        rw [Int.toNat_natCast] at h0
        exact h.other ht hik (j' := ⟨i0.cap, i0.runs - 1, i0.lm, (BK.report i0.bx ok t).2.2⟩) h0 rfl (h.later ht).xb
    · exact h.later ht
theorem OtK.takeO (h : OtK x y k m j now) (ht : now ≤ t) {i : Nat} (hik : i ≠ k) : OtK (x.take i t).2 y k m j t := by
  unfold Gt.take
  split
  · exact h.later ht
  · split
    · next i0 h0 =>
      split
      · exact h.later ht
      · unfold Gt.job at h0
        rw [Int.toNat_natCast] at h0
        exact h.other ht hik (j' := ⟨i0.cap, i0.runs + 1, i0.lm.count t, (BK.take i0.bx t).2⟩) h0 rfl (a := x.both.count t) ⟨h.xb.1, Int.le_refl _⟩
    · exact h.later ht
theorem OtK.next (h : OtK x y k m j now) (hi : x.Inv) (ht : now ≤ t) (h0 : 0 ≤ t) (h9 : t ≤ 253402300799) : ∃ s is, x.next k t = (s, is, 0) ∧ y.next 0 t = (s, is, 0) := by
  obtain ⟨c1, c2⟩ := h.call ht h0 h9
  obtain ⟨r1, r2⟩ := h.room hi
  have e1 := (lm_free h.xb.1 (Int.le_trans h.xb.2 ht) h0 h9).2
  have e2 := (lm_free h.yb.1 (Int.le_trans h.yb.2 ht) h0 h9).2
  have ea : x.nextAt j t = y.nextAt j t := by unfold Gt.nextAt; rw [e1, e2]
  unfold Gt.next
  rw [if_neg (by rw [c1]; simp), if_neg (by rw [c2]; simp), h.xjob, h.yjob]
  simp only
  rw [← ea]
  by_cases hf : j.cap ≤ j.runs
  · rw [if_pos (.inr hf), if_pos (.inr hf)]
    exact ⟨_, _, rfl, rfl⟩
  · rw [if_neg (show ¬ (x.cap ≤ x.total ∨ j.cap ≤ j.runs) by omega), if_neg (show ¬ (y.cap ≤ y.total ∨ j.cap ≤ j.runs) by omega)]
    by_cases hc : 253402300799 < x.nextAt j t ∨ BK.allows j.bx (x.nextAt j t) = false
    · exact ⟨0, false, if_pos hc, if_pos hc⟩
    · exact ⟨_, true, if_neg hc, if_neg hc⟩
end
/-- Both gates in memory. -/
structure OtI (B T m : Nat) (w0 : World) (cb : Nat) (cs : Array Value) (L M : Ly) (x y : Gt) (W : World) : Prop where
  g : GAt W L x
  h : GAt W M y
  gn : x.js.length = m
  hn : y.js.length = 1
  sep : ∀ i, L.sup m i → i < T ∧ B ≤ i
  far : ∀ i, M.sup 1 i → T ≤ i
  c : Blk W cb 32 cs
  bel : Below B w0 W
  le : B ≤ w0.heap.size ∧ B ≤ T
section
variable {B T m cb : Nat} {w0 W W' : World} {cs : Array Value} {L M : Ly} {x y x' : Gt}
theorem OtI.below (H : OtI B T m w0 cb cs L M x y W) (hb : Below W.heap.size W W') : OtI B T m w0 cb cs L M x y W' := ⟨H.g.below hb, H.h.below hb, H.gn, H.hn, H.sep, H.far, H.c.below hb H.c.lt, H.bel.trans (hb.mono (Nat.le_trans H.le.1 H.bel.size)), H.le⟩
theorem OtI.turnG (H : OtI B T m w0 cb cs L M x y W) (hg : GAt W' L x') (ht : Turn (L.own x.js.length) W W') (hn : x'.js.length = x.js.length) : OtI B T m w0 cb cs L M x' y W' :=
  ⟨hg, H.h.turn ht (fun i hi ho => by
    have h1 := H.far i (by rw [← H.hn]; exact hi)
    have h2 := H.sep i (.inl (by rw [← H.gn]; exact ho))
    omega), hn.trans H.gn, H.hn, H.sep, H.far, H.g.keeps ht _ _ _ H.c (by decide) (by decide) (by decide) (by decide), ht.below (fun i ho => (H.sep i (.inl (by rw [← H.gn]; exact ho))).2) H.bel H.le.1, H.le⟩
theorem OtI.turnH (H : OtI B T m w0 cb cs L M x y W) (hg : GAt W' M x') (ht : Turn (M.own y.js.length) W W') (hn : x'.js.length = y.js.length) : OtI B T m w0 cb cs L M x x' W' :=
  ⟨H.g.turn ht (fun i hi ho => by
    have h1 := H.far i (.inl (by rw [← H.hn]; exact ho))
    have h2 := H.sep i (by rw [← H.gn]; exact hi)
    omega), hg, H.gn, hn.trans H.hn, H.sep, H.far, H.h.keeps ht _ _ _ H.c (by decide) (by decide) (by decide) (by decide), ht.below (fun i ho => Nat.le_trans H.le.2 (H.far i (.inl (by rw [← H.hn]; exact ho)))) H.bel H.le.1, H.le⟩
theorem ot_giveG (H : OtI B T m w0 cb cs L M x y W) (job : Int) (ok : Bool) (t : Int) {ev er : Int} (he : x.give job ok t = (ev, er, x')) : Calls Tryz.prog 20 #[.pointer (some ⟨L.g, 0, none⟩), .int .i64 job, .bool ok, .int .i64 t] W fun e w' => e = .returned (.tuple #[.int .i64 ev, .int .i64 er]) ∧ OtI B T m w0 cb cs L M x' y w' :=
  (ggive_ok H.g job ok t).mono fun e w' ⟨h1, h2, h3⟩ => by
    have hl := Gt.give_len (x := x) (job := job) (now := t) (ok := ok)
    rw [he] at h1 h2 hl
    exact ⟨h1, H.turnG h2 h3 hl⟩
theorem ot_giveH (H : OtI B T m w0 cb cs L M x y W) (job : Int) (ok : Bool) (t : Int) {ev er : Int} (he : y.give job ok t = (ev, er, x')) : Calls Tryz.prog 20 #[.pointer (some ⟨M.g, 0, none⟩), .int .i64 job, .bool ok, .int .i64 t] W fun e w' => e = .returned (.tuple #[.int .i64 ev, .int .i64 er]) ∧ OtI B T m w0 cb cs L M x x' w' :=
  (ggive_ok H.h job ok t).mono fun e w' ⟨h1, h2, h3⟩ => by
    have hl := Gt.give_len (x := y) (job := job) (now := t) (ok := ok)
    rw [he] at h1 h2 hl
    exact ⟨h1, H.turnH h2 h3 hl⟩
theorem ot_takeG (H : OtI B T m w0 cb cs L M x y W) (job : Int) (t : Int) {er : Int} (he : x.take job t = (er, x')) : Calls Tryz.prog 22 #[.pointer (some ⟨L.g, 0, none⟩), .int .i64 job, .int .i64 t] W fun e w' => e = .returned (.int .i64 er) ∧ OtI B T m w0 cb cs L M x' y w' :=
  (gtake_ok H.g job t).mono fun e w' ⟨h1, h2, h3⟩ => by
    have hl := Gt.take_len (x := x) (job := job) (now := t)
    rw [he] at h1 h2 hl
    exact ⟨h1, H.turnG h2 h3 hl⟩
theorem ot_takeH (H : OtI B T m w0 cb cs L M x y W) (job : Int) (t : Int) {er : Int} (he : y.take job t = (er, x')) : Calls Tryz.prog 22 #[.pointer (some ⟨M.g, 0, none⟩), .int .i64 job, .int .i64 t] W fun e w' => e = .returned (.int .i64 er) ∧ OtI B T m w0 cb cs L M x x' w' :=
  (gtake_ok H.h job t).mono fun e w' ⟨h1, h2, h3⟩ => by
    have hl := Gt.take_len (x := y) (job := job) (now := t)
    rw [he] at h1 h2 hl
    exact ⟨h1, H.turnH h2 h3 hl⟩
theorem ot_nextG (H : OtI B T m w0 cb cs L M x y W) (job : Int) (t : Int) {s er : Int} {is : Bool} (he : x.next job t = (s, is, er)) : Calls Tryz.prog 26 #[.pointer (some ⟨L.g, 0, none⟩), .int .i64 job, .int .i64 t] W fun e w' => e = .returned (.tuple #[.int .i64 s, .bool is, .int .i64 er]) ∧ OtI B T m w0 cb cs L M x y w' :=
  (gnext_ok H.g job t).mono fun e w' ⟨h1, h2⟩ => by rw [he] at h1; exact ⟨h1, H.below h2⟩
theorem ot_nextH (H : OtI B T m w0 cb cs L M x y W) (job : Int) (t : Int) {s er : Int} {is : Bool} (he : y.next job t = (s, is, er)) : Calls Tryz.prog 26 #[.pointer (some ⟨M.g, 0, none⟩), .int .i64 job, .int .i64 t] W fun e w' => e = .returned (.tuple #[.int .i64 s, .bool is, .int .i64 er]) ∧ OtI B T m w0 cb cs L M x y w' :=
  (gnext_ok H.h job t).mono fun e w' ⟨h1, h2⟩ => by rw [he] at h1; exact ⟨h1, H.below h2⟩
end
/-- The configuration without bounds for all. -/
def G1 : Gl := ⟨1000, 1, 0, 1, 0, 0, 0⟩
theorem g1_ok {L : JL} {lim tau most : Nat} (h : CfOk (madeG lim tau most) L) : CfOk G1 L := ⟨by decide +kernel, h.many, h.nms, h.new, h.all⟩
theorem made_zero (rs : List Rl) (a : Option Addr) (n c : Nat) (hn : rs.length = n) (h9 : n ≤ 9223372036854775807) (hnc : n ≤ c) (w : World) (hA : RulesAt w a rs) :
    Calls Tryz.prog 13 #[.slice a n c, .int .u8 0, .int .u8 0, .int .u8 0] w fun e w' => ∃ (qs : List Rl) (m g c' : Nat), qs.length = m ∧ 0 < m ∧ m ≤ 4 ∧ e = .returned (.agg #[.int .i64 1, .int .i64 1, .int .i64 0, .int .i64 1, .int .u64 0, .int .i64 0, .int .i64 0, .slice (some ⟨g, 0, none⟩) m c']) ∧ OwnsC w.heap.size (.slice (some ⟨g, 0, none⟩) m c') (madeFrom 0 qs) w' ∧ Below w.heap.size w w' :=
  (made_any rs a n c hn 0 0 0 (by decide) (by decide) (by decide) h9 hnc w hA).mono fun _ _ h => h
theorem one_cfok {qs : List Rl} (h4 : qs.length ≤ 4) {k : Nat} {r : Rl} (hr : qs[k]? = some r) : CfOk G1 [(jbR k r, [])] where
  gl := by decide +kernel
  many := (show 1 ≤ 64 by decide)
  nms := fun i hi => by
    have : i = 0 := by simpa using hi
    subst this
    exact nmR_ok ⟨k, by have := (List.getElem?_eq_some_iff.1 hr).1; omega⟩
  new := fun i hi q hq _ hqi => by
    have h1 : i = 0 := by simpa using hi
    have h2 : q = 0 := by simpa using hq
    omega
  all := fun i hi => by
    have : i = 0 := by simpa using hi
    subst this
    have hk : k < (madeFrom 0 qs).length := by rw [madeFrom_len]; exact (List.getElem?_eq_some_iff.1 hr).1
    have := (made_cfok qs h4 0 0 0).all k hk
    obtain ⟨r2, h1, h2⟩ := made_at hk
    rw [hr] at h1
    injection h1 with h1
    subst h1
    rw [h2] at this
    exact this
theorem one_arg {B g n c k : Nat} {W : World} {qs : List Rl} {r : Rl} (ho : OwnsC B (.slice (some ⟨g, 0, none⟩) n c) (madeFrom 0 qs) W) (hr : qs[k]? = some r) (d : Nat) (h1 : SpTab W) (h2 : Tab W) : CArg W ⟨G1, some ⟨g, k * 30, none⟩, 1, d⟩ [(jbR k r, [])] :=
  ⟨⟨rfl, fun i hi => by
    have : i = 0 := by simpa using hi
    subst this
    have hk : k < (madeFrom 0 qs).length := by rw [madeFrom_len]; exact (List.getElem?_eq_some_iff.1 hr).1
    obtain ⟨r2, e1, e2⟩ := made_at hk
    rw [hr] at e1
    injection e1 with e1
    subst e1
    refine ⟨g, k * 30, rfl, fun q hq => ?_, pin0 u64_zero rfl⟩
    rw [show k * 30 + 0 * 30 + q = k * 30 + q by omega]
    have := ho.cell k q hk hq
    rw [e2] at this
    exact this, (show (0 : Nat) < 18446744073709551616 by decide)⟩, (show (1 : Nat) ≤ 200 by decide), fun i hi => by
    have : i = 0 := by simpa using hi
    subst this
    exact Nat.zero_le _, h1, h2⟩
theorem ot_start {qs : List Rl} {m k : Nat} (hq : qs.length = m) (h4 : m ≤ 4) {r : Rl} (hr : qs[k]? = some r) : OtK (g0 G1 (madeFrom 0 qs)) (g0 G1 [(jbR k r, [])]) k m (jt0 (jbR k r, [])) 50 := by
  have hk : k < qs.length := (List.getElem?_eq_some_iff.1 hr).1
  refine ⟨?_, rfl, rfl, rfl, ⟨rfl, (show (0 : Int) ≤ 50 by decide)⟩, ⟨rfl, (show (0 : Int) ≤ 50 by decide)⟩, (show (0 : Int) ≤ 50 by decide), (show (0 : Int) ≤ 50 by decide), fun i hi => ?_, ?_, h4, by omega⟩
  · show ((madeFrom 0 qs).map jt0)[k]? = _
    rw [List.getElem?_map, madeFrom_get qs 0 k r hr, Nat.zero_add]
    rfl
  · obtain ⟨z, hz, rfl⟩ := List.mem_map.1 hi
    obtain ⟨q, hq2, e⟩ := List.mem_iff_getElem.1 hz
    obtain ⟨r2, _, e2⟩ := made_at hq2
    rw [e2] at e
    subst e
    show 1 + (r2.cap : Int) % 4 ≤ 4
    omega
  · show ((madeFrom 0 qs).map jt0).length = m
    rw [List.length_map, madeFrom_len]
    exact hq
end Go.Proofs.YtmbnmfcjbbfkoaaGreatDoor.AD
