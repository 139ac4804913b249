/- A range over an iterator that writes blocks of its own (a captured variable) between its rounds. -/
import Derived.RangeFuncWrites
import Derived.RangeFuncBox
import Derived.ControlIn
namespace Go.Proofs.YtcgnnmpgdnajnaaDoor.RK
open Go Go.RowKit

/-- What an iterator may do between two rounds: new blocks; its own blocks; whatever is no cells and lies from B on. -/
structure Steps (own : Nat → Prop) (B : Nat) (X Y : World) : Prop where
  os : Y.os = X.os
  tape : Y.tape = X.tape
  output : Y.output = X.output
  size : X.heap.size ≤ Y.heap.size
  same : ∀ (k : Nat) (o : Obj), X.heap[k]? = some o → ¬ own k → (B ≤ k → o.isCells = true) → Y.heap[k]? = some o
  kind : ∀ (k : Nat) (cs : Array Value) (t : TypeId) (f : Nat × Nat), own k → X.heap[k]? = some (.cells cs t f) → ∃ cs', Y.heap[k]? = some (.cells cs' t f)
theorem Steps.refl (own : Nat → Prop) (B : Nat) (X : World) : Steps own B X X := ⟨rfl, rfl, rfl, Nat.le_refl _, fun _ _ h _ _ => h, fun _ cs _ _ _ h => ⟨cs, h⟩⟩
theorem Steps.trans {own : Nat → Prop} {B : Nat} {X Y Z : World} (h : Steps own B X Y) (k : Steps own B Y Z) : Steps own B X Z :=
  ⟨k.os.trans h.os, k.tape.trans h.tape, k.output.trans h.output, Nat.le_trans h.size k.size, fun i o hi hn hc => k.same i o (h.same i o hi hn hc) hn hc,
    fun i cs t f ho hi => by obtain ⟨cs', h'⟩ := h.kind i cs t f ho hi; exact k.kind i cs' t f ho h'⟩
theorem Steps.mono {own : Nat → Prop} {B C : Nat} {X Y : World} (h : Steps own C X Y) (hB : B ≤ C) : Steps own B X Y :=
  ⟨h.os, h.tape, h.output, h.size, fun i o hi hn hc => h.same i o hi hn (fun hle => hc (Nat.le_trans hB hle)), h.kind⟩
theorem Steps.alloc (own : Nat → Prop) (B : Nat) (X : World) (o : Obj) : Steps own B X (X.alloc o) :=
  ⟨rfl, rfl, rfl, by simp, fun k o' hk _ _ => (Below.heap_alloc X o k (Array.getElem?_eq_some_iff.1 hk).1).trans hk,
    fun k cs _ _ _ hk => ⟨cs, (Below.heap_alloc X o k (Array.getElem?_eq_some_iff.1 hk).1).trans hk⟩⟩
theorem Steps.drew (own : Nat → Prop) (B : Nat) (X : World) : Steps own B X X.drew := ⟨rfl, rfl, rfl, Nat.le_refl _, fun _ _ h _ _ => h, fun _ cs _ _ _ h => ⟨cs, h⟩⟩
theorem Steps.putObj (own : Nat → Prop) {B l : Nat} {X : World} {o : Obj} (o' : Obj) (hB : B ≤ l) (hl : X.heap[l]? = some o) (hc : o.isCells = false) : Steps own B X (X.putObj l o') :=
  ⟨rfl, rfl, rfl, by simp, fun k o2 hk _ h2 => by
    by_cases e : k = l
    · subst e; rw [hl] at hk; cases hk; rw [h2 hB] at hc; cases hc
    · exact (World.putObj_heap_other e).trans hk,
   fun k cs t f _ hk => by
    by_cases e : k = l
    · subst e; rw [hl] at hk; cases hk; cases hc
    · exact ⟨cs, (World.putObj_heap_other e).trans hk⟩⟩
theorem setCell_kind {X : World} {b j : Nat} {v : Value} {k : Nat} {cs : Array Value} {t : TypeId} {f : Nat × Nat} (h : X.heap[k]? = some (.cells cs t f)) : ∃ cs', (X.setCell ⟨b, j, none⟩ v).heap[k]? = some (.cells cs' t f) := by
  by_cases e : k = b
  · subst e
    obtain ⟨hlt, hk⟩ := Array.getElem?_eq_some_iff.1 h
    refine ⟨cs.setIfInBounds j v, ?_⟩
    show (X.heap.modify k _)[k]? = _
    rw [Array.getElem?_eq_getElem (by rw [Array.size_modify]; exact hlt), Array.getElem_modify_self, hk]
    rfl
  · exact ⟨cs, (Below.heap_setCell X _ v k e).trans h⟩
theorem Steps.setCell {own : Nat → Prop} (B : Nat) (X : World) {b j : Nat} (v : Value) (h : own b) : Steps own B X (X.setCell ⟨b, j, none⟩ v) :=
  ⟨rfl, rfl, rfl, (KeepsWalks.setCell X _ v).size, fun k o hk hn _ => (Below.heap_setCell X _ v k (fun e => hn (by rw [e]; exact h))).trans hk, fun _ _ _ _ _ hk => setCell_kind hk⟩
/-- A statement that an iterator's steps do not turn. -/
def Closed (own : Nat → Prop) (B : Nat) {β : Type} (J : β → World → Prop) : Prop := ∀ s X Y, J s X → Steps own B X Y → J s Y

/-- The iterator's contract: its loop body may leave early; 'own': the blocks that it writes between the rounds; 'Kp': what a round must keep for it. -/
def SeqOwn {α : Type} (F : Fence) (n : Nat) (P : Program) (g : Nat) (lb : Array Value) (encs : α → Array Value) (own : Nat → Prop) (Kp : World → World → Prop) (S Sp : List α → Prop) (N : Nat) (w : World) : Prop :=
  ∀ (l : Nat) (J Jx : List α → World → Prop) (W : World), Below w.heap.size w W → Closed own W.heap.size J → Closed own W.heap.size Jx →
    (∀ pre x W1, J pre W1 → pre.length < N → YieldAt F (n - 1) P l (encs x) W1 fun e W' =>
      (e = .returned (.bool true) ∧ J (pre ++ [x]) W' ∧ Kp W1 W') ∨ (e = .returned (.bool false) ∧ Jx (pre ++ [x]) W')) →
    J [] W →
    CallsIn F n P g (#[.func (.yield l) #[] #[]] ++ lb) W fun e W' => (∃ v, e = .returned v) ∧ ((∃ xs, S xs ∧ J xs W') ∨ (∃ pre, Sp pre ∧ Jx pre W'))

variable {F : Fence} {n : Nat} {P : Program}

theorem wpIn_rangeFunc_seqOwn {α : Type} {g : Operand} {ps : Array Tmp} {assign body : Code} {Q : Exit → Act → World → Prop} {a : Act} {w : World}
    (hro : F.round = none) (h1 : 1 ≤ n) {gf : Nat} {lb : Array Value} (hg : a.eval g = .func (.func gf) #[] lb) (hFg : F.fn gf) (eg : ∀ args w, (callFunc gf args).run P w = .ok (.enter gf args) w)
    {encs : α → Array Value} {own : Nat → Prop} {Kp : World → World → Prop} {S Sp : List α → Prop} {N : Nat} (hseq : SeqOwn F (n - 1) P gf lb encs own Kp S Sp N w) (hown : ∀ k, own k → k < w.heap.size)
    (hKt : ∀ {A B C : World}, Kp A B → Kp B C → Kp A C) (hKb : ∀ (W : World) (l : Nat) (o o' : Obj), w.heap.size ≤ l → W.heap[l]? = some o → o.isCells = false → Kp W (W.putObj l o')) (hps : ∀ x, (encs x).size = ps.size)
    (I : List α → World → Prop) (Ix : Code → List α → World → Prop) (hI : Closed own w.heap.size I) (hIx : ∀ c, Closed own w.heap.size (Ix c)) (h0 : I [] w) (a₁ : α → Act)
    (hassign : ∀ (l : Nat) (x : α) (W : World) (K : Act → World → Prop), K (a₁ x) W →
      assign.wpIn (F.inRound l) (n - 1 - 1) P (Exit.then K (fun _ _ _ => False)) { tmps := (ps.zip (encs x)).foldl (fun t (p, v) => t.setIfInBounds p v) a.tmps, defers := [] } W)
    (hbody : ∀ (l : Nat) (pre : List α) (x : α) (W : World), I pre W → pre.length < N → body.wpIn (F.inRound l) (n - 1 - 1) P (ownPostG w.heap.size Kp I Ix (pre ++ [x]) W) (a₁ x) W)
    (hdone : ∀ (D : Nat) (xs : List α) (W : World), w.heap.size ≤ D → S xs → I xs W → W.heap[D]? = some (.deferred (some [])) → Q .normal { a with defers := { target := .collected D, args := #[] } :: a.defers } W)
    (hstop : ∀ (D : Nat) (c : Code) (pre : List α) (W : World), w.heap.size ≤ D → Sp pre → Ix c pre W → W.heap[D]? = some (.deferred (some [])) → c.wpIn F n P Q { a with defers := { target := .collected D, args := #[] } :: a.defers } W) :
    (Code.rangeFunc g ps assign body).wpIn F n P Q a w := by
  refine wpIn_rangeFunc fun fn hfn => ?_
  rw [hro]
  -- the record in its states; the two new blocks
  let rec' : LoopState → Option Code → Obj := fun st pe => .loop { state := st, pending := pe, fn, tmps := a.tmps, params := ps, assign, body, defers := w.heap.size }
  let D := w.heap.size
  let L := w.heap.size + 1
  let W0 := (w.alloc (.deferred (some []))).alloc (rec' .ready none)
  have sz : W0.heap.size = w.heap.size + 2 := by simp [W0]
  have atL : W0.heap[L]? = some (rec' .ready none) := by
    have := World.alloc_heap_new (w.alloc (.deferred (some []))) (rec' .ready none)
    rw [World.size_alloc] at this; exact this
  have atD : W0.heap[D]? = some (.deferred (some [])) := (Below.heap_alloc _ _ _ (by simp [D])).trans (World.alloc_heap_new w _)
  have st0 : Steps own w.heap.size w W0 := (Steps.alloc own _ w _).trans (Steps.alloc own _ _ _)
  have bel : Below w.heap.size w W0 := ((Below.refl _ w).alloc (Nat.le_refl _) _).alloc (by simp) _
  have nD : ¬ own D := fun h => absurd (hown D h) (by simp [D])
  have nL : ¬ own L := fun h => absurd (hown L h) (by simp [L])
  -- the three facts that go with a state of the record
  let At : LoopState → Option Code → World → Prop := fun st pe W => W.heap[L]? = some (rec' st pe) ∧ W.heap[D]? = some (.deferred (some []))
  have atClosed : ∀ st pe X Y, At st pe X → Steps own W0.heap.size X Y → At st pe Y := fun st pe X Y h hs =>
    ⟨hs.same L _ h.1 nL (fun hle => absurd hle (by simp [sz, L])), hs.same D _ h.2 nD (fun hle => absurd hle (by simp [sz, D]))⟩
  have put : ∀ st pe st' pe' (W : World), At st pe W → At st' pe' (W.putObj L (rec' st' pe')) := fun st pe st' pe' W h =>
    ⟨World.putObj_heap_same (Array.getElem?_eq_some_iff.1 h.1).1, (World.putObj_heap_other (by simp [D, L])).trans h.2⟩
  have putS : ∀ st pe st' pe' (W : World), At st pe W → Steps own w.heap.size W (W.putObj L (rec' st' pe')) := fun st pe st' pe' W h =>
    Steps.putObj own _ (by simp [L]) h.1 rfl
  have putK : ∀ st pe st' pe' (W : World), At st pe W → Kp W (W.putObj L (rec' st' pe')) := fun st pe st' pe' W h => hKb W L _ _ (by simp [L]) h.1 rfl
  refine ⟨L, [{ target := .collected D, args := #[] }], W0, { target := .fn (.func gf) lb, args := #[.func (.yield L) #[] #[]] }, W0, gf, #[.func (.yield L) #[] #[]] ++ lb, W0,
    run_enterLoop_outer _ _ _ _ _, by simp only [resolve, hg]; simp [go_sem], fun f' hf' => by simp [Target.leads] at hf'; subst hf'; exact hFg, by simp [invoke, go_sem, eg], fun _ => h1, ?_⟩
  refine (hseq L (fun pre W => I pre W ∧ At .ready none W) (fun pre W => ∃ c, Ix c pre W ∧ At .done (some c) W) W0 bel
    (fun s X Y h hs => ⟨hI s X Y h.1 (hs.mono (by omega)), atClosed _ _ X Y h.2 hs⟩)
    (fun s X Y h hs => by obtain ⟨c, hc, ha⟩ := h; exact ⟨c, hIx c s X Y hc (hs.mono (by omega)), atClosed _ _ X Y ha hs⟩)
    ?_ ⟨hI _ _ _ h0 st0, atL, atD⟩).mono ?_
  · -- one round
    rintro pre x W ⟨hi, ha⟩ hlen
    refine ⟨fn, _, assign, body, run_yield (P := P) (args := encs x) ha.1 (hps x), roundIn_of_wpIn hfn (hassign _ x W _ ⟨_, run_beginRound ha.1 rfl, ?_⟩)⟩
    have hb := put _ _ .busy none W ha
    have keep : ∀ W3, KeepsFrom w.heap.size (W.putObj L (rec' .busy none)) W3 → At .busy none W3 := fun W3 hk =>
      ⟨hk.same L _ (by simp [L]) hb.1 rfl, hk.same D _ (Nat.le_refl _) hb.2 rfl⟩
    have done : ∀ c W3, KeepsFrom w.heap.size (W.putObj L (rec' .busy none)) W3 → Ix c (pre ++ [x]) W3 →
        ∃ v w', (Instr.endRound L (some c)).run P W3 = .ok v w' ∧ ((Ending.returned v = .returned (.bool true) ∧ (I (pre ++ [x]) w' ∧ At .ready none w') ∧ Kp W w') ∨ (Ending.returned v = .returned (.bool false) ∧ ∃ c, Ix c (pre ++ [x]) w' ∧ At .done (some c) w')) := fun c W3 hk hx =>
      ⟨_, _, run_endRound (some c) (keep W3 hk).1, .inr ⟨rfl, c, hIx c _ _ _ hx (putS _ _ .done (some c) W3 (keep W3 hk)), put _ _ .done (some c) W3 (keep W3 hk)⟩⟩
    refine wpIn_mono (hbody L pre x _ (hI _ _ _ hi (putS _ _ .busy none W ha)) hlen) ?_
    rintro e a3 W3 hp
    cases e with
    | normal =>
      obtain ⟨hk, hkp, hi3⟩ := hp
      have hb3 := keep W3 hk
      exact ⟨_, _, run_endRound none hb3.1, .inl ⟨rfl, ⟨hI _ _ _ hi3 (putS _ _ .ready none W3 hb3), put _ _ .ready none W3 hb3⟩, hKt (hKt (putK _ _ .busy none W ha) hkp) (putK _ _ .ready none W3 hb3)⟩⟩
    | ret => exact done _ W3 hp.1 hp.2
    | exit id => exact done _ W3 hp.1 hp.2
    | goto t => exact done _ W3 hp.1 hp.2
    | panic ch => exact hp.elim
    | outgrown => exact hp.elim
  · -- behind the iterator
    rintro e W2 ⟨⟨v, rfl⟩, (⟨xs, hS, hi, ha⟩ | ⟨pre, hSp, c, hi, ha⟩)⟩
    · exact ⟨none, _, run_endLoop ha.1 (by simp), hdone D xs _ (Nat.le_refl _) hS (hI _ _ _ hi (putS _ _ .exhausted none W2 ha)) (put _ _ .exhausted none W2 ha).2⟩
    · exact ⟨some c, _, run_endLoop ha.1 (by simp), hstop D c pre _ (Nat.le_refl _) hSp (hIx c _ _ _ hi (putS _ _ .exhausted (some c) W2 ha)) (put _ _ .exhausted (some c) W2 ha).2⟩
end Go.Proofs.YtcgnnmpgdnajnaaDoor.RK
