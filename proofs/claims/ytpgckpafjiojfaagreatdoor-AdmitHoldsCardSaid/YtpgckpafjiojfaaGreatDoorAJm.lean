/- What AdmitHolds keeps: counted launches, runs, and until when boxes are open; plainly. -/
import Derived.Test.YtpgckpafjiojfaaGreatDoorAHu
import Derived.Test.YtpgckpafjiojfaaGreatDoorAJk
namespace Go.Proofs.YtpgckpafjiojfaaGreatDoor.AD
open Go Go.RowKit BW
open BK (Bx BoxAt Blk only_refl only_drew only_drewN only_setCell only_trans only_of_below only_alloc below_drewN)
abbrev La := Int × Int
def timesOf (ps : List La) : List Int := ps.map (·.2)
structure GsP (l : Lm) (ps : List La) : Prop where
  gc : Gc l (timesOf ps)
  ge : ∀ p ∈ ps, 0 ≤ p.2
def updL (f : Nat → List La) (k : Nat) (v : List La) : Nat → List La := fun i => if i = k then v else f i
def updI (f : Nat → Int) (k : Nat) (v : Int) : Nat → Int := fun i => if i = k then v else f i
/-- Until when a box was seen open. -/
def UnP (b : Bx) (now u : Int) : Prop := (b.op = true → u = b.un) ∧ (b.op = false → u ≤ now)
structure HoP (x : Gt) (now : Int) (all : List La) (one : Nat → List La) (un : Nat → Int) : Prop where
  both : GsP x.both all
  js : ∀ (k : Nat) (j : Jt), x.js[k]? = some j → GsP j.lm (one k) ∧ UnP j.bx now (un k)
theorem gsP_new (t tau : Int) : GsP (lm0 t tau) [] := ⟨gc_new t tau, fun _ h => by cases h⟩
theorem GsP.count {l : Lm} {ps : List La} (h : GsP l ps) (hi : l.Inv) {t : Int} (hc : l.check t = 0) (k : Int) : GsP (l.count t) (ps ++ [(k, t)]) := by
  have h0 := timeB_iff.1 (Lm.check_zero hc).1
  refine ⟨?_, fun p hp => ?_⟩
  · have := h.gc.count hi hc
    unfold timesOf
    rw [List.map_append]
    exact this
  · rcases List.mem_append.1 hp with hp | hp
    · exact h.ge p hp
    · simp at hp
      subst hp
      exact h0.1
theorem UnP.later {b : Bx} {now t u : Int} (h : UnP b now u) (ht : now ≤ t) : UnP b t u := ⟨h.1, fun ho => Int.le_trans (h.2 ho) ht⟩
theorem HoP.later {x : Gt} {now t : Int} {all : List La} {one : Nat → List La} {un : Nat → Int} (h : HoP x now all one un) (ht : now ≤ t) : HoP x t all one un := ⟨h.both, fun k j hj => ⟨(h.js k j hj).1, (h.js k j hj).2.later ht⟩⟩
theorem hoP_new (G : Gl) (LL : JL) : HoP (g0 G LL) 50 [] (fun _ => []) (fun _ => 0) := by
  refine ⟨gsP_new _ _, fun k j hj => ?_⟩
  have hj : (LL.map jt0)[k]? = some j := hj
  rw [List.getElem?_map] at hj
  cases hL : LL[k]? with
  | none => rw [hL] at hj; cases hj
  | some y =>
    rw [hL] at hj
    injection hj with hj
    subst hj
    exact ⟨gsP_new _ _, (fun h => by cases h), fun _ => (show (0 : Int) ≤ 50 by decide)⟩
theorem HoP.put {x : Gt} {now t : Int} {all : List La} {one : Nat → List La} {un : Nat → Int} (h : HoP x now all one un) (ht : now ≤ t) {k : Nat} {j' : Jt} {a' : List La} {o' : List La} {u' : Int} {b : Lm} (hb : GsP b a') (hl : GsP j'.lm o') (hu : UnP j'.bx t u') : HoP ⟨x.cap, b, x.js.set k j', t⟩ t a' (updL one k o') (updI un k u') := by
  refine ⟨hb, fun i j hj => ?_⟩
  have hj : (x.js.set k j')[i]? = some j := hj
  rw [List.getElem?_set] at hj
  unfold updL updI
  by_cases hi : k = i
  · rw [if_pos hi] at hj
    split at hj
    · injection hj with hj
      subst hj
      rw [if_pos hi.symm, if_pos hi.symm]
      exact ⟨hl, hu⟩
    · cases hj
  · rw [if_neg hi] at hj
    rw [if_neg fun e => hi e.symm, if_neg fun e => hi e.symm]
    exact ⟨(h.js i j hj).1, (h.js i j hj).2.later ht⟩
theorem updL_self (f : Nat → List La) (k : Nat) : updL f k (f k) = f := funext fun i => by
  unfold updL
  split
  · next h => rw [h]
  · rfl
theorem updI_self (f : Nat → Int) (k : Nat) : updI f k (f k) = f := funext fun i => by
  unfold updI
  split
  · next h => rw [h]
  · rfl
/-- A call on a job that there is. -/
theorem ho_call {x : Gt} {now t : Int} (h : Sm x now) (ht : now ≤ t) (h0 : 0 ≤ t) (h9 : t ≤ 253402300799) {k : Nat} {j : Jt} (hj : x.js[k]? = some j) : x.call k t = 0 ∧ x.job k = some j := by
  have hl : k < x.js.length := (List.getElem?_eq_some_iff.1 hj).1
  exact ⟨sm_call h ht h0 h9 (by omega), by unfold Gt.job; rw [Int.toNat_natCast]; exact hj⟩
section
variable {x : Gt} {now t : Int} {all : List La} {one : Nat → List La} {un : Nat → Int} {k : Nat} {j : Jt}
/-- A launch that is admitted. -/
theorem ho_take (hi : x.Inv) (hs : Sm x now) (h : HoP x now all one un) (ht : now ≤ t) (h0 : 0 ≤ t) (h9 : t ≤ 253402300799) (hj : x.js[k]? = some j) :
    x.take k t = (9, x) ∨ (x.take k t = (0, x.took k j t) ∧ un k ≤ t ∧ HoP (x.took k j t) t (all ++ [((k : Int), t)]) (updL one k (one k ++ [((k : Int), t)])) un) := by
  obtain ⟨hc, hjb⟩ := ho_call hs ht h0 h9 hj
  unfold Gt.take
  rw [if_neg (by rw [hc]; simp), hjb]
  simp only
  by_cases hw : x.whyJ j t ≠ 0
  · rw [if_pos hw]
    exact .inl rfl
  · rw [if_neg hw]
    right
    obtain ⟨z1, z2, z3, z4, z5⟩ := whyJ_zero (show x.whyJ j t = 0 by omega)
    obtain ⟨g1, g2⟩ := h.js k j hj
    have hm := hi.js j (List.mem_of_getElem? hj)
    unfold Lm.allows at z2 z4
    have hu : un k ≤ t := by
      cases ho : j.bx.op
      · have := g2.2 ho; omega
      · have h1 := g2.1 ho
        unfold BK.allows at z5
        rw [if_neg (by rw [ho]; simp)] at z5
        split at z5
        · cases z5
        · omega
    refine ⟨rfl, hu, ?_⟩
    have hub : UnP (BK.take j.bx t).2 t (un k) := by
      unfold BK.take
      by_cases hck : BK.check j.bx t ≠ 0
      · rw [if_pos hck]; exact g2.later ht
      · rw [if_neg hck]
        split
        · exact g2.later ht
        · show UnP (BK.seen (if _ then _ else _) t) t (un k)
          split
          · exact ⟨g2.1, fun ho => Int.le_trans (g2.2 ho) ht⟩
          · exact ⟨g2.1, fun ho => Int.le_trans (g2.2 ho) ht⟩
    have := h.put ht (k := k) (j' := ⟨j.cap, j.runs + 1, j.lm.count t, (BK.take j.bx t).2⟩) (h.both.count hi.both (of_decide_eq_true z2) k) (g1.count hm.2.2.1 (of_decide_eq_true z4) k) hub
    rw [updI_self] at this
    unfold Gt.took
    rw [Int.toNat_natCast]
    exact this
/-- An end of a run. -/
theorem ho_give (hi : x.Inv) (hs : Sm x now) (h : HoP x now all one un) (ht : now ≤ t) (h0 : 0 ≤ t) (h9 : t ≤ 253402300799) (hj : x.js[k]? = some j) (ok : Bool) :
    (j.runs = 0 ∧ x.give k ok t = (0, 5, x)) ∨ (0 < j.runs ∧ ∃ ev bx, x.give k ok t = (ev, 0, ⟨x.cap, x.both, x.js.set k ⟨j.cap, j.runs - 1, j.lm, bx⟩, t⟩) ∧ (ev = 0 ∨ ev = 7 ∨ ev = 8) ∧ HoP ⟨x.cap, x.both, x.js.set k ⟨j.cap, j.runs - 1, j.lm, bx⟩, t⟩ t all one (if ev = 7 then updI un k (t + j.bx.o) else un)) := by
  obtain ⟨hc, hjb⟩ := ho_call hs ht h0 h9 hj
  have hm := hi.js j (List.mem_of_getElem? hj)
  obtain ⟨g1, g2⟩ := h.js k j hj
  have hl := (hs.js j (List.mem_of_getElem? hj)).2.2.1
  unfold Gt.give
  rw [if_neg (by rw [hc]; simp), hjb]
  simp only
  by_cases hr : j.runs = 0
  · rw [if_pos hr]
    exact .inl ⟨hr, rfl⟩
  · rw [if_neg hr]
    right
    refine ⟨by omega, ?_⟩
    have hck : BK.check j.bx t = 0 := check0 (timeB_iff.2 ⟨h0, h9⟩) (by omega)
    have key : ∃ ev bx, BK.report j.bx ok t = (ev, 0, bx) ∧ (ev = 0 ∨ ev = 7 ∨ ev = 8) ∧ UnP bx t (if ev = 7 then t + j.bx.o else un k) := by
      unfold BK.report
      rw [hck, if_neg (by decide)]
      by_cases hf : j.bx.f = 0
      · rw [if_pos hf]
        exact ⟨_, _, rfl, .inl rfl, g2.1, fun ho => Int.le_trans (g2.2 ho) ht⟩
      · rw [if_neg hf]
        have hn : UnP (BK.seen j.bx t) t (un k) := ⟨g2.1, fun ho => Int.le_trans (g2.2 ho) ht⟩
        generalize hb : BK.seen j.bx t = b at hn
        have hbo : b.o = j.bx.o := by rw [← hb]; rfl
        unfold BK.ended
        by_cases ho : b.op = false
        · rw [if_pos ho]
          unfold BK.closed
          split
          · exact ⟨_, _, rfl, .inl rfl, hn⟩
          · split
            · exact ⟨_, _, rfl, .inl rfl, hn⟩
            · exact ⟨_, _, rfl, .inr (.inl rfl), fun _ => by rw [if_pos rfl]; show t + j.bx.o = t + b.o; rw [hbo], fun h => by cases h⟩
        · rw [if_neg ho]
          have ho' : b.op = true := by cases h : b.op <;> simp_all
          split
          · exact ⟨_, _, rfl, .inl rfl, hn⟩
          · next hu =>
            unfold BK.half
            split
            · exact ⟨_, _, rfl, .inr (.inl rfl), fun _ => by rw [if_pos rfl]; show t + j.bx.o = t + b.o; rw [hbo], fun h => by cases h⟩
            · split
              · exact ⟨_, _, rfl, .inl rfl, hn⟩
              · split
                · exact ⟨_, _, rfl, .inl rfl, hn⟩
                · refine ⟨_, _, rfl, .inr (.inr rfl), (fun h => by cases h), fun _ => ?_⟩
                  rw [if_neg (show ¬ ((8 : Int) = 7) by decide)]
                  have := hn.1 ho'
                  omega
    obtain ⟨ev, bx, e1, e2, e3⟩ := key
    rw [e1]
    refine ⟨ev, bx, rfl, e2, ?_⟩
    have := h.put ht (k := k) (j' := ⟨j.cap, j.runs - 1, j.lm, bx⟩) h.both g1 e3
    rw [updL_self] at this
    by_cases he : ev = 7
    · rw [if_pos he] at this ⊢
      exact this
    · rw [if_neg he] at this ⊢
      rwa [updI_self] at this
theorem ho_trip (hs : Sm x now) (h : HoP x now all one un) (ht : now ≤ t) (h0 : 0 ≤ t) (h9 : t ≤ 253402300799) (hj : x.js[k]? = some j) (hf : j.bx.f ≠ 0) :
    ∃ bx, x.trip k t = (0, ⟨x.cap, x.both, x.js.set k ⟨j.cap, j.runs, j.lm, bx⟩, t⟩) ∧ HoP ⟨x.cap, x.both, x.js.set k ⟨j.cap, j.runs, j.lm, bx⟩, t⟩ t all one (updI un k (t + j.bx.o)) := by
  obtain ⟨hc, hjb⟩ := ho_call hs ht h0 h9 hj
  obtain ⟨g1, g2⟩ := h.js k j hj
  have hl := (hs.js j (List.mem_of_getElem? hj)).2.2.1
  have hck : BK.check j.bx t = 0 := check0 (timeB_iff.2 ⟨h0, h9⟩) (by omega)
  have hsw : BK.switched j.bx t = 0 := by unfold BK.switched; rw [hck, if_neg (by decide), if_neg hf]
  unfold Gt.trip Gt.switch
  rw [if_neg (by rw [hc]; simp), hjb]
  simp only
  have e : BK.trip j.bx t = (0, BK.start (BK.seen j.bx t) t) := by unfold BK.trip; rw [if_neg (by rw [hsw]; simp)]
  rw [e, if_neg (by simp)]
  refine ⟨_, rfl, ?_⟩
  have := h.put ht (k := k) (j' := ⟨j.cap, j.runs, j.lm, BK.start (BK.seen j.bx t) t⟩) (u' := t + j.bx.o) h.both g1 ⟨fun _ => rfl, fun h => by cases h⟩
  rwa [updL_self] at this
theorem ho_reset (hs : Sm x now) (h : HoP x now all one un) (ht : now ≤ t) (h0 : 0 ≤ t) (h9 : t ≤ 253402300799) (hj : x.js[k]? = some j) (hf : j.bx.f ≠ 0) :
    ∃ bx, x.reset k t = (0, ⟨x.cap, x.both, x.js.set k ⟨j.cap, j.runs, j.lm, bx⟩, t⟩) ∧ HoP ⟨x.cap, x.both, x.js.set k ⟨j.cap, j.runs, j.lm, bx⟩, t⟩ t all one (updI un k 0) := by
  obtain ⟨hc, hjb⟩ := ho_call hs ht h0 h9 hj
  obtain ⟨g1, g2⟩ := h.js k j hj
  have hl := (hs.js j (List.mem_of_getElem? hj)).2.2.1
  have hck : BK.check j.bx t = 0 := check0 (timeB_iff.2 ⟨h0, h9⟩) (by omega)
  have hsw : BK.switched j.bx t = 0 := by unfold BK.switched; rw [hck, if_neg (by decide), if_neg hf]
  unfold Gt.reset Gt.switch
  rw [if_neg (by rw [hc]; simp), hjb]
  simp only
  have e : BK.reset j.bx t = (0, BK.stop (BK.seen j.bx t)) := by unfold BK.reset; rw [if_neg (by rw [hsw]; simp)]
  rw [e, if_neg (by simp)]
  refine ⟨_, rfl, ?_⟩
  have := h.put ht (k := k) (j' := ⟨j.cap, j.runs, j.lm, BK.stop (BK.seen j.bx t)⟩) (u' := 0) h.both g1 ⟨(fun h => by cases h), fun _ => h0⟩
  rwa [updL_self] at this
theorem ho_state (hs : Sm x now) (ht : now ≤ t) (h0 : 0 ≤ t) (h9 : t ≤ 253402300799) (hj : x.js[k]? = some j) : x.state k t = (j.runs, BK.state j.bx t, 0) := by
  obtain ⟨hc, hjb⟩ := ho_call hs ht h0 h9 hj
  unfold Gt.state
  rw [if_neg (by rw [(Gt.call_zero hc).1]; simp), hjb]
/-- All pairs of counted launches keep to the limit. -/
theorem GsP.pairs {l : Lm} {ps : List La} (h : GsP l ps) : ∀ (i k : Nat) (a b : Int), i ≤ k → (timesOf ps)[i]? = some a → (timesOf ps)[k]? = some b → ((k - i : Nat) : Int) * l.t ≤ b - a + l.tau := fun i k a b hik ha hb => by
  obtain ⟨h1, rfl⟩ := List.getElem?_eq_some_iff.1 ha
  obtain ⟨h2, rfl⟩ := List.getElem?_eq_some_iff.1 hb
  exact h.gc.pair i k hik h2
theorem GsP.small {l : Lm} {ps : List La} {now : Int} (h : GsP l ps) (hl : l.last ≤ now) (h9 : now ≤ 1000) : ∀ (i : Nat) (a : Int), (timesOf ps)[i]? = some a → 0 ≤ a ∧ a ≤ 1000 := fun i a ha => by
  obtain ⟨h1, rfl⟩ := List.getElem?_eq_some_iff.1 ha
  have h2 := h.gc.la i h1
  refine ⟨?_, by omega⟩
  unfold timesOf at h1 ⊢
  rw [List.getElem_map]
  exact h.ge _ (List.getElem_mem _)
end
end Go.Proofs.YtpgckpafjiojfaaGreatDoor.AD
