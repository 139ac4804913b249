/- The rows of AdmitHolds in memory, beside a gate. -/
import Derived.Test.YtpgckpafjiojfaaGreatDoorAJm
import Derived.Test.YtpgckpafjiojfaaGreatDoorAIw
namespace Go.Proofs.YtpgckpafjiojfaaGreatDoor.AD
open Go Go.RowKit BW
open BK (Bx BoxAt Blk only_refl only_drew only_drewN only_setCell only_trans only_of_below only_alloc below_drewN)
def laC (p : La) : List Value := [.int .i64 p.1, .int .i64 p.2]
def OwnL (T : Nat) (v : Value) (ps : List La) (W : World) : Prop := W.ownsRow T 62 2 v ps.length (ps.flatMap laC)
theorem laC_get : ∀ (ps : List La) (k i : Nat) (hk : k < ps.length), i < 2 → (ps.flatMap laC)[k * 2 + i]? = (laC ps[k])[i]? := by
  intro ps
  induction ps with
  | nil => intro k i hk; simp at hk
  | cons b bs ih =>
    intro k i hk hi
    have h4 : (laC b).length = 2 := rfl
    rw [List.flatMap_cons]
    cases k with
    | zero => rw [List.getElem?_append_left (by rw [h4]; omega), Nat.zero_mul, Nat.zero_add]; rfl
    | succ k =>
      rw [List.getElem?_append_right (by rw [h4]; omega), h4, show (k + 1) * 2 + i - 2 = k * 2 + i by omega]
      exact ih k i (by simpa using hk) hi
theorem timesOf_get {ps : List La} {k : Nat} (hk : k < (timesOf ps).length) : (timesOf ps)[k] = (ps[k]'(by unfold timesOf at hk; simpa using hk)).2 := List.getElem_map ..
theorem OwnL.lies {T : Nat} {v : Value} {ps : List La} {W : World} (h : OwnL T v ps W) : ∃ a cap, v = .slice a ps.length cap ∧ ps.length ≤ cap ∧ LauncsAt W a (timesOf ps) := by
  obtain ⟨hl, h⟩ := h
  rcases h with ⟨rfl, h0⟩ | ⟨g, cap, cur, rfl, hb, hg, hn, hc, hs, ht⟩
  · have : ps = [] := List.eq_nil_of_length_eq_zero h0
    subst this
    exact ⟨none, 0, rfl, Nat.le_refl _, fun k hk => by simp [timesOf] at hk⟩
  · refine ⟨_, cap, rfl, hn, fun k hk => ⟨g, 0, rfl, ?_⟩⟩
    have hk' : k < ps.length := by unfold timesOf at hk; simpa using hk
    have h1 := laC_get ps k 1 hk' (by decide)
    rw [← ht, List.getElem?_take, if_pos (by omega), Array.getElem?_toList] at h1
    have hB : Blk W g 62 cur := hg
    rw [Nat.zero_add, hB.cell, h1, timesOf_get]
    rfl
theorem OwnL.below {T : Nat} {v : Value} {ps : List La} {W X : World} (h : OwnL T v ps W) (hb : Below W.heap.size W X) : OwnL T v ps X := own_below h hb
theorem own_keeps {B : Nat} {e : TypeId} {s n : Nat} {v : Value} {xs : List Value} {W X : World} (h : W.ownsRow B e s v n xs) (hk : Keeps W X) (h1 : e ≠ 118) (h2 : e ≠ 174) (h3 : e ≠ 179) (h4 : e ≠ 182) : X.ownsRow B e s v n xs :=
  ⟨h.1, h.2.imp id fun ⟨g, cap, cur, a1, a2, a3, a4⟩ => ⟨g, cap, cur, a1, a2, hk g e cur a3 h1 h2 h3 h4, a4⟩⟩
/-- A row whose block another's growth leaves alone. -/
theorem own_apart {B : Nat} {e : TypeId} {s n : Nat} {v u : Value} {xs : List Value} {W X : World} (h : W.ownsRow B e s v n xs) (hg : W.grownBy X u.ownBlock) (hne : ∀ g, v.ownBlock = some g → u.ownBlock ≠ some g) : X.ownsRow B e s v n xs :=
  ⟨h.1, h.2.imp id fun ⟨g, cap, cur, a1, a2, a3, a4⟩ => ⟨g, cap, cur, a1, a2, (hg.block g (Array.getElem?_eq_some_iff.1 a3).1 (fun e => hne g (by rw [a1]; rfl) e.symm)).trans a3, a4⟩⟩
def Runs (rc : Array Value) (m : Nat) (f : Nat → Value) : Prop := ∀ k, k < m → rc[k]? = some (f k)
theorem Runs.set {rc : Array Value} {m : Nat} {f : Nat → Value} (h : Runs rc m f) {k : Nat} (hk : k < m) (v : Value) : Runs (rc.setIfInBounds k v) m (fun i => if i = k then v else f i) := fun i hi => by
  have hl : k < rc.size := (Array.getElem?_eq_some_iff.1 (h k hk)).1
  show (rc.setIfInBounds k v)[i]? = some (if i = k then v else f i)
  by_cases e : i = k
  · subst e
    rw [if_pos rfl, Array.getElem?_setIfInBounds_self_of_lt hl]
  · rw [if_neg e, Array.getElem?_setIfInBounds_ne (fun h => e h.symm)]
    exact h i hi
/-- The gate, and the rows of the law. -/
structure HoI (B T : Nat) (w0 : World) (cb m : Nat) (cs : Array Value) (Y : Ly) (x : Gt) (rb ub ob : Nat) (av : Value) (sv : Nat → Value) (all : List La) (one : Nat → List La) (rn un : Nat → Int) (jv : Value) (LL : JL) (W : World) : Prop where
  h : GHas B w0 W Y x
  c : Blk W cb 31 cs
  n : x.js.length = m
  r : ∃ rc, Blk W rb 3 rc ∧ Runs rc m (fun k => .int .i64 (rn k))
  u : ∃ uc, Blk W ub 2 uc ∧ Runs uc m (fun k => .int .i64 (un k))
  o : ∃ oc, Blk W ob 37 oc ∧ Runs oc m sv
  a : OwnL T av all W
  s : ∀ k, k < m → OwnL T (sv k) (one k) W
  ap : ∀ k, k < m → ∀ g, (sv k).ownBlock = some g → av.ownBlock ≠ some g
  sp : ∀ k, k < m → ∀ i, i < m → i ≠ k → ∀ g, (sv i).ownBlock = some g → (sv k).ownBlock ≠ some g
  sup : ∀ i, Y.sup m i → i < T
  lo : T ≤ rb ∧ T ≤ ub ∧ T ≤ ob ∧ B ≤ T
  jobs : OwnsC B jv LL W
section
variable {B T cb m rb ub ob : Nat} {w0 W W' : World} {cs : Array Value} {Y : Ly} {x y : Gt} {av : Value} {sv : Nat → Value} {all : List La} {one : Nat → List La} {rn un : Nat → Int} {jv : Value} {LL : JL}
theorem HoI.below (H : HoI B T w0 cb m cs Y x rb ub ob av sv all one rn un jv LL W) (hb : Below W.heap.size W W') : HoI B T w0 cb m cs Y x rb ub ob av sv all one rn un jv LL W' :=
  ⟨H.h.below hb, H.c.below hb H.c.lt, H.n, H.r.imp fun _ h => ⟨h.1.below hb h.1.lt, h.2⟩, H.u.imp fun _ h => ⟨h.1.below hb h.1.lt, h.2⟩, H.o.imp fun _ h => ⟨h.1.below hb h.1.lt, h.2⟩, H.a.below hb, fun k hk => (H.s k hk).below hb, H.ap, H.sp, H.sup, H.lo, own_below H.jobs hb⟩
/-- A call of the gate. -/
theorem HoI.go (H : HoI B T w0 cb m cs Y x rb ub ob av sv all one rn un jv LL W) (h : GHas B w0 W' Y y) (hk : Keeps W W') (hn : y.js.length = x.js.length) : HoI B T w0 cb m cs Y y rb ub ob av sv all one rn un jv LL W' :=
  ⟨h, hk _ _ _ H.c (by decide) (by decide) (by decide) (by decide), hn.trans H.n, H.r.imp fun _ h => ⟨hk _ _ _ h.1 (by decide) (by decide) (by decide) (by decide), h.2⟩, H.u.imp fun _ h => ⟨hk _ _ _ h.1 (by decide) (by decide) (by decide) (by decide), h.2⟩, H.o.imp fun _ h => ⟨hk _ _ _ h.1 (by decide) (by decide) (by decide) (by decide), h.2⟩, own_keeps H.a hk (by decide) (by decide) (by decide) (by decide), fun k hk' => own_keeps (H.s k hk') hk (by decide) (by decide) (by decide) (by decide), H.ap, H.sp, H.sup, H.lo, own_keeps H.jobs hk (by decide) (by decide) (by decide) (by decide)⟩
theorem GHas.farT {B T : Nat} {w0 W W' : World} {Y : Ly} {x : Gt} (H : GHas B w0 W Y x) (hs : ∀ i, Y.sup x.js.length i → i < T) (hk : Below T W W') (hB : B ≤ T) : GHas B w0 W' Y x :=
  ⟨H.g.keep fun i hi => hk.block i (hs i hi), H.bel.trans (hk.mono hB), H.own, H.le⟩
theorem HoI.setR (H : HoI B T w0 cb m cs Y x rb ub ob av sv all one rn un jv LL W) {k : Nat} (hk : k < m) (v : Int) : HoI B T w0 cb m cs Y x rb ub ob av sv all one (updI rn k v) un jv LL (W.setCell ⟨rb, k, none⟩ (.int .i64 v)) := by
  obtain ⟨rc, hr, hrv⟩ := H.r
  have hb : Below T W (W.setCell ⟨rb, k, none⟩ (.int .i64 v)) := (Below.refl T W).setCell H.lo.1 _
  have fr : ∀ {g : Nat} {t : TypeId} {ds : Array Value}, Blk W g t ds → t ≠ 3 → Blk (W.setCell ⟨rb, k, none⟩ (.int .i64 v)) g t ds := fun h hne => h.far (blk_ne h hr hne) _
  refine ⟨H.h.farT (by rw [H.n]; exact H.sup) hb H.lo.2.2.2, fr H.c (by decide), H.n, ⟨_, hr.set_ k _, ?_⟩, H.u.imp fun _ h => ⟨fr h.1 (by decide), h.2⟩, H.o.imp fun _ h => ⟨fr h.1 (by decide), h.2⟩, own_set H.a hr (by decide) _ _, fun i hi => own_set (H.s i hi) hr (by decide) _ _, H.ap, H.sp, H.sup, H.lo, own_set H.jobs hr (by decide) _ _⟩
  have := hrv.set hk (.int .i64 v)
  intro i hi
  have h2 := this i hi
  rw [h2]
  show some (if i = k then Value.int .i64 v else .int .i64 (rn i)) = some (Value.int .i64 (if i = k then v else rn i))
  split <;> rfl
theorem HoI.setU (H : HoI B T w0 cb m cs Y x rb ub ob av sv all one rn un jv LL W) {k : Nat} (hk : k < m) (v : Int) : HoI B T w0 cb m cs Y x rb ub ob av sv all one rn (updI un k v) jv LL (W.setCell ⟨ub, k, none⟩ (.int .i64 v)) := by
  obtain ⟨uc, hu, huv⟩ := H.u
  have hb : Below T W (W.setCell ⟨ub, k, none⟩ (.int .i64 v)) := (Below.refl T W).setCell H.lo.2.1 _
  have fr : ∀ {g : Nat} {t : TypeId} {ds : Array Value}, Blk W g t ds → t ≠ 2 → Blk (W.setCell ⟨ub, k, none⟩ (.int .i64 v)) g t ds := fun h hne => h.far (blk_ne h hu hne) _
  refine ⟨H.h.farT (by rw [H.n]; exact H.sup) hb H.lo.2.2.2, fr H.c (by decide), H.n, H.r.imp fun _ h => ⟨fr h.1 (by decide), h.2⟩, ⟨_, hu.set_ k _, ?_⟩, H.o.imp fun _ h => ⟨fr h.1 (by decide), h.2⟩, own_set H.a hu (by decide) _ _, fun i hi => own_set (H.s i hi) hu (by decide) _ _, H.ap, H.sp, H.sup, H.lo, own_set H.jobs hu (by decide) _ _⟩
  have := huv.set hk (.int .i64 v)
  intro i hi
  have h2 := this i hi
  rw [h2]
  show some (if i = k then Value.int .i64 v else .int .i64 (un i)) = some (Value.int .i64 (if i = k then v else un i))
  split <;> rfl
end
/-- A row that a make lays. -/
def Md (Z W : World) (e : TypeId) (z : Value) (m : Nat) (v : Value) : Prop := v = .slice (some ⟨blkS v, 0, none⟩) m m ∧ Z.heap.size ≤ blkS v ∧ Blk W (blkS v) e (madeCells #[z] m)
def Q7 (cb m : Nat) (js : Value) (Z W : World) (i : Nat) (v : Value) : Prop := match i with
  | 0 => v = .pointer (some ⟨cb, 7, none⟩)
  | 1 => v = js
  | 2 => v = .int .i64 m
  | 3 => Md Z W 37 (.slice none 0 0) m v
  | 4 => v = .pointer (some ⟨cb, 7, none⟩)
  | 5 => v = js
  | 6 => v = .int .i64 m
  | 7 => Md Z W 3 (.int .i64 0) m v
  | 8 => v = .pointer (some ⟨cb, 7, none⟩)
  | 9 => v = js
  | 10 => v = .int .i64 m
  | 11 => Md Z W 2 (.int .i64 0) m v
  | _ => True
theorem Md.below {Z W W' : World} {e : TypeId} {z v : Value} {m : Nat} (h : Md Z W e z m v) (hb : Below W.heap.size W W') : Md Z W' e z m v := ⟨h.1, h.2.1, h.2.2.below hb h.2.2.lt⟩
theorem Q7.below {cb m : Nat} {js : Value} {Z W W' : World} {i : Nat} {v : Value} (h : Q7 cb m js Z W i v) (hb : Below W.heap.size W W') : Q7 cb m js Z W' i v := by
  match i with
  | 0 | 1 | 2 | 4 | 5 | 6 | 8 | 9 | 10 => exact h
  | 3 => exact Md.below h hb
  | 7 => exact Md.below h hb
  | 11 => exact Md.below h hb
  | _ + 12 => trivial
structure R7 (cb m : Nat) (js : Value) (Z : World) (listed : Array Bool) (v : Nat → Value) (W : World) : Prop where
  pl : ∀ i, listed[i]? = some true → Q7 cb m js Z W i (v i)
  a12 : listed[12]? = some true → v 12 = v 3 ∧ listed[3]? = some true
  a13 : listed[13]? = some true → v 13 = v 7 ∧ listed[7]? = some true
  a14 : listed[14]? = some true → v 14 = v 11 ∧ listed[11]? = some true
  bel : Below Z.heap.size Z W
theorem R7.step {cb m : Nat} {js : Value} {Z W W' : World} {listed : Array Bool} {v : Nat → Value} (h : R7 cb m js Z listed v W) {i : Nat} {u : Value} (hl : listed[i]? = some false) (hb : Below W.heap.size W W') (hp : Q7 cb m js Z W' i u) (h12 : i = 12 → u = v 3 ∧ listed[3]? = some true) (h13 : i = 13 → u = v 7 ∧ listed[7]? = some true) (h14 : i = 14 → u = v 11 ∧ listed[11]? = some true) : R7 cb m js Z (listed.setIfInBounds i true) (updC v i u) W' := by
  have no : ∀ {j : Nat}, listed[j]? = some true → j ≠ i := fun hj e => by rw [e, hl] at hj; cases hj
  refine ⟨fun q hq => ?_, fun hz => ?_, fun hz => ?_, fun hz => ?_, h.bel.trans (hb.mono h.bel.size)⟩
  · by_cases e : q = i
    · subst e; rw [updC_eq]; exact hp
    · rw [updC_ne e]; exact (h.pl q ((set_at q hq).resolve_left e)).below hb
  · by_cases e : 12 = i
    · obtain ⟨a, b⟩ := h12 e.symm
      rw [← e, updC_eq, updC_ne (by decide)]; exact ⟨a, set_keep b⟩
    · obtain ⟨a, b⟩ := h.a12 ((set_at 12 hz).resolve_left e)
      rw [updC_ne e, updC_ne (no b)]; exact ⟨a, set_keep b⟩
  · by_cases e : 13 = i
    · obtain ⟨a, b⟩ := h13 e.symm
      rw [← e, updC_eq, updC_ne (by decide)]; exact ⟨a, set_keep b⟩
    · obtain ⟨a, b⟩ := h.a13 ((set_at 13 hz).resolve_left e)
      rw [updC_ne e, updC_ne (no b)]; exact ⟨a, set_keep b⟩
  · by_cases e : 14 = i
    · obtain ⟨a, b⟩ := h14 e.symm
      rw [← e, updC_eq, updC_ne (by decide)]; exact ⟨a, set_keep b⟩
    · obtain ⟨a, b⟩ := h.a14 ((set_at 14 hz).resolve_left e)
      rw [updC_ne e, updC_ne (no b)]; exact ⟨a, set_keep b⟩
theorem made_get {z : Value} {m k : Nat} (hk : k < m) : (madeCells #[z] m)[k]? = some z := by
  unfold madeCells
  simp [hk, Nat.mod_one]
/-- What the operations of the region that counts a launch have yielded. -/
def Q23 (ob k : Nat) (op av sk : Value) (p : La) (i : Nat) (v : Value) : Prop := match i with
  | 0 => v = op
  | 1 => v = .int .i64 k
  | 2 => v = av
  | 3 => v = .int .i64 p.1
  | 4 => v = .int .i64 p.2
  | 5 => v = .agg #[.int .i64 p.1, .int .i64 p.2]
  | 8 => v = op
  | 9 => v = .int .i64 k
  | 10 => v = .pointer (some ⟨ob, k, none⟩)
  | 11 => v = sk
  | 12 => v = .int .i64 p.1
  | 13 => v = .int .i64 p.2
  | 14 => v = .agg #[.int .i64 p.1, .int .i64 p.2]
  | _ => True
/-- Two rows of launches that a drawn region extends one behind the other. -/
structure R23 (T : Nat) (Z : World) (ob k : Nat) (op av sk : Value) (all ok : List La) (p : La) (listed : Array Bool) (v : Nat → Value) (W : World) : Prop where
  pl : ∀ i, listed[i]? = some true → Q23 ob k op av sk p i (v i)
  a0 : listed[7]? = some false → OwnL T av all W
  a1 : listed[7]? = some true → OwnL T (v 7) (all ++ [p]) W ∧ v 7 = .slice (some ⟨blkS (v 7), 0, none⟩) (all.length + 1) (capS (v 7)) ∧ (av.ownBlock = some (blkS (v 7)) ∨ Z.heap.size ≤ blkS (v 7))
  s0 : listed[16]? = some false → OwnL T sk ok W
  s1 : listed[16]? = some true → OwnL T (v 16) (ok ++ [p]) W ∧ v 16 = .slice (some ⟨blkS (v 16), 0, none⟩) (ok.length + 1) (capS (v 16)) ∧ (sk.ownBlock = some (blkS (v 16)) ∨ Z.heap.size ≤ blkS (v 16)) ∧ blkS (v 7) ≠ blkS (v 16) ∧ listed[7]? = some true
  n1 : listed[6]? = some true → v 6 = .slice (some ⟨blkS (v 6), 0, none⟩) 1 1 ∧ Z.heap.size ≤ blkS (v 6) ∧ (listed[7]? = some false → Blk W (blkS (v 6)) 62 (laC p).toArray)
  n2 : listed[15]? = some true → v 15 = .slice (some ⟨blkS (v 15), 0, none⟩) 1 1 ∧ Z.heap.size ≤ blkS (v 15) ∧ (listed[16]? = some false → Blk W (blkS (v 15)) 62 (laC p).toArray)
  c17 : listed[17]? = some true → v 17 = v 7 ∧ listed[7]? = some true ∧ listed[16]? = some true
  keep : ∀ b, b < Z.heap.size → av.ownBlock ≠ some b → sk.ownBlock ≠ some b → W.heap[b]? = Z.heap[b]?
  sz : Z.heap.size ≤ W.heap.size
  bel : Below T Z W
section
variable {T : Nat} {Z W W' : World} {ob k : Nat} {op av sk : Value} {all ok : List La} {p : La} {listed : Array Bool} {v : Nat → Value}
theorem R23.blk (h : R23 T Z ob k op av sk all ok p listed v W) {b : Nat} {t : TypeId} {cs : Array Value} (hb : Blk Z b t cs) (h1 : av.ownBlock ≠ some b) (h2 : sk.ownBlock ≠ some b) : Blk W b t cs := (h.keep b hb.lt h1 h2).trans hb
theorem R23.put (h : R23 T Z ob k op av sk all ok p listed v W) {i : Nat} {u : Value} (hp : Q23 ob k op av sk p i u) (m : Nat) (hm : (listed.setIfInBounds i true)[m]? = some true) : Q23 ob k op av sk p m (updC v i u m) := by
  by_cases e : m = i
  · subst e; rw [updC_eq]; exact hp
  · rw [updC_ne e]; exact h.pl m ((set_at m hm).resolve_left e)
theorem R23.plain (h : R23 T Z ob k op av sk all ok p listed v W) {i : Nat} {u : Value} (hi : i ≠ 6 ∧ i ≠ 7 ∧ i ≠ 15 ∧ i ≠ 16) (hp : Q23 ob k op av sk p i u) (h17 : i = 17 → u = v 7 ∧ listed[7]? = some true ∧ listed[16]? = some true) : R23 T Z ob k op av sk all ok p (listed.setIfInBounds i true) (updC v i u) W := by
  obtain ⟨i6, i7, i15, i16⟩ := hi
  have e6 : updC v i u 6 = v 6 := updC_ne (Ne.symm i6)
  have e7 : updC v i u 7 = v 7 := updC_ne (Ne.symm i7)
  have e15 : updC v i u 15 = v 15 := updC_ne (Ne.symm i15)
  have e16 : updC v i u 16 = v 16 := updC_ne (Ne.symm i16)
  refine ⟨h.put hp, ?_, ?_, ?_, ?_, ?_, ?_, fun hz => ?_, h.keep, h.sz, h.bel⟩
  · rw [Array.getElem?_setIfInBounds_ne i7]; exact h.a0
  · rw [Array.getElem?_setIfInBounds_ne i7, e7]; exact h.a1
  · rw [Array.getElem?_setIfInBounds_ne i16]; exact h.s0
  · rw [Array.getElem?_setIfInBounds_ne i16, Array.getElem?_setIfInBounds_ne i7, e16, e7]; exact h.s1
  · rw [Array.getElem?_setIfInBounds_ne i6, Array.getElem?_setIfInBounds_ne i7, e6]; exact h.n1
  · rw [Array.getElem?_setIfInBounds_ne i15, Array.getElem?_setIfInBounds_ne i16, e15]; exact h.n2
  · rw [e7]
    by_cases e : 17 = i
    · obtain ⟨a1, a2, a3⟩ := h17 e.symm
      rw [← e, updC_eq]; exact ⟨a1, set_keep a2, set_keep a3⟩
    · rw [updC_ne e]
      obtain ⟨a1, a2, a3⟩ := h.c17 ((set_at 17 hz).resolve_left e)
      exact ⟨a1, set_keep a2, set_keep a3⟩
theorem R23.new1 (h : R23 T Z ob k op av sk all ok p listed v W) (hw : W' = W.alloc (.cells (laC p).toArray 62)) (hT : T ≤ Z.heap.size) : R23 T Z ob k op av sk all ok p (listed.setIfInBounds 6 true) (updC v 6 (.slice (some ⟨W.heap.size, 0, none⟩) 1 1)) W' := by
  have hb : Below W.heap.size W W' := by rw [hw]; exact (Below.refl _ _).alloc (Nat.le_refl _) _
  have e7 : updC v 6 (.slice (some ⟨W.heap.size, 0, none⟩) 1 1) 7 = v 7 := updC_ne (by decide)
  have e15 : updC v 6 (.slice (some ⟨W.heap.size, 0, none⟩) 1 1) 15 = v 15 := updC_ne (by decide)
  have e16 : updC v 6 (.slice (some ⟨W.heap.size, 0, none⟩) 1 1) 16 = v 16 := updC_ne (by decide)
  refine ⟨h.put trivial, ?_, ?_, ?_, ?_, fun _ => ?_, ?_, fun hz => ?_, fun b h1 h2 h3 => (hb.block b (Nat.lt_of_lt_of_le h1 h.sz)).trans (h.keep b h1 h2 h3), Nat.le_trans h.sz hb.size, h.bel.trans (hb.mono (Nat.le_trans hT h.sz))⟩
  · rw [Array.getElem?_setIfInBounds_ne (by decide)]; exact fun hz => (h.a0 hz).below hb
  · rw [Array.getElem?_setIfInBounds_ne (by decide), e7]; exact fun hz => ⟨(h.a1 hz).1.below hb, (h.a1 hz).2⟩
  · rw [Array.getElem?_setIfInBounds_ne (by decide)]; exact fun hz => (h.s0 hz).below hb
  · rw [Array.getElem?_setIfInBounds_ne (by decide), Array.getElem?_setIfInBounds_ne (by decide), e16, e7]; exact fun hz => ⟨(h.s1 hz).1.below hb, (h.s1 hz).2⟩
  · rw [updC_eq]
    exact ⟨rfl, h.sz, fun _ => by rw [hw]; exact Blk.new _ _ _⟩
  · rw [Array.getElem?_setIfInBounds_ne (by decide), Array.getElem?_setIfInBounds_ne (by decide), e15]; exact fun hz => ⟨(h.n2 hz).1, (h.n2 hz).2.1, fun hz2 => ((h.n2 hz).2.2 hz2).below hb ((h.n2 hz).2.2 hz2).lt⟩
  · rw [e7, updC_ne (by decide)]
    obtain ⟨a1, a2, a3⟩ := h.c17 ((set_at 17 hz).resolve_left (by decide))
    exact ⟨a1, set_keep a2, set_keep a3⟩
theorem R23.new2 (h : R23 T Z ob k op av sk all ok p listed v W) (hw : W' = W.alloc (.cells (laC p).toArray 62)) (hT : T ≤ Z.heap.size) : R23 T Z ob k op av sk all ok p (listed.setIfInBounds 15 true) (updC v 15 (.slice (some ⟨W.heap.size, 0, none⟩) 1 1)) W' := by
  have hb : Below W.heap.size W W' := by rw [hw]; exact (Below.refl _ _).alloc (Nat.le_refl _) _
  have e7 : updC v 15 (.slice (some ⟨W.heap.size, 0, none⟩) 1 1) 7 = v 7 := updC_ne (by decide)
  have e6 : updC v 15 (.slice (some ⟨W.heap.size, 0, none⟩) 1 1) 6 = v 6 := updC_ne (by decide)
  have e16 : updC v 15 (.slice (some ⟨W.heap.size, 0, none⟩) 1 1) 16 = v 16 := updC_ne (by decide)
  refine ⟨h.put trivial, ?_, ?_, ?_, ?_, ?_, fun _ => ?_, fun hz => ?_, fun b h1 h2 h3 => (hb.block b (Nat.lt_of_lt_of_le h1 h.sz)).trans (h.keep b h1 h2 h3), Nat.le_trans h.sz hb.size, h.bel.trans (hb.mono (Nat.le_trans hT h.sz))⟩
  · rw [Array.getElem?_setIfInBounds_ne (by decide)]; exact fun hz => (h.a0 hz).below hb
  · rw [Array.getElem?_setIfInBounds_ne (by decide), e7]; exact fun hz => ⟨(h.a1 hz).1.below hb, (h.a1 hz).2⟩
  · rw [Array.getElem?_setIfInBounds_ne (by decide)]; exact fun hz => (h.s0 hz).below hb
  · rw [Array.getElem?_setIfInBounds_ne (by decide), Array.getElem?_setIfInBounds_ne (by decide), e16, e7]; exact fun hz => ⟨(h.s1 hz).1.below hb, (h.s1 hz).2⟩
  · rw [Array.getElem?_setIfInBounds_ne (by decide), Array.getElem?_setIfInBounds_ne (by decide), e6]; exact fun hz => ⟨(h.n1 hz).1, (h.n1 hz).2.1, fun hz2 => ((h.n1 hz).2.2 hz2).below hb ((h.n1 hz).2.2 hz2).lt⟩
  · rw [updC_eq]
    exact ⟨rfl, h.sz, fun _ => by rw [hw]; exact Blk.new _ _ _⟩
  · rw [e7, updC_ne (by decide)]
    obtain ⟨a1, a2, a3⟩ := h.c17 ((set_at 17 hz).resolve_left (by decide))
    exact ⟨a1, set_keep a2, set_keep a3⟩
theorem own_len {B : Nat} {e : TypeId} {s n : Nat} {v : Value} {xs : List Value} {w : World} (h : w.ownsRow B e s v n xs) : ∀ g, v.ownBlock = some g → g < w.heap.size := fun g hg => (h.lt g hg).2
theorem R23.app1 (h : R23 T Z ob k op av sk all ok p listed v W) (h7 : listed[7]? = some false) (h16 : listed[16]? = some false) (hT : T ≤ Z.heap.size) (hap : ∀ g, sk.ownBlock = some g → av.ownBlock ≠ some g) (hav : ∀ g, av.ownBlock = some g → g < Z.heap.size) {g cap : Nat} (hg : W.grownBy W' av.ownBlock) (hgg : av.ownBlock = some g ∨ g = W.heap.size)
    (ho : W'.ownsRow T 62 2 (.slice (some ⟨g, 0, none⟩) (all.length + 1) cap) (all.length + 1) (all.flatMap laC ++ laC p)) : R23 T Z ob k op av sk all ok p (listed.setIfInBounds 7 true) (updC v 7 (.slice (some ⟨g, 0, none⟩) (all.length + 1) cap)) W' := by
  have hl : 7 < listed.size := (Array.getElem?_eq_some_iff.1 h7).1
  have hc := h.a0 h7
  have e6 : updC v 7 (.slice (some ⟨g, 0, none⟩) (all.length + 1) cap) 6 = v 6 := updC_ne (by decide)
  have e15 : updC v 7 (.slice (some ⟨g, 0, none⟩) (all.length + 1) cap) 15 = v 15 := updC_ne (by decide)
  refine ⟨h.put trivial, fun hz => ?_, fun _ => ?_, fun _ => own_apart (h.s0 h16) hg hap, fun hz => ?_, ?_, ?_, fun hz => ?_, fun b h1 h2 h3 => ?_, Nat.le_trans h.sz hg.size, ?_⟩
  · rw [Array.getElem?_setIfInBounds_self_of_lt hl] at hz; cases hz
  · rw [updC_eq]
    refine ⟨?_, rfl, hgg.imp id fun e => ?_⟩
    · unfold OwnL
      rw [List.length_append, List.flatMap_append, List.flatMap_singleton]
      exact ho
    · show Z.heap.size ≤ g
      rw [e]
      exact h.sz
  · rw [Array.getElem?_setIfInBounds_ne (by decide), h16] at hz; cases hz
  · rw [Array.getElem?_setIfInBounds_ne (by decide), e6]
    exact fun hz => ⟨(h.n1 hz).1, (h.n1 hz).2.1, fun hz2 => by rw [Array.getElem?_setIfInBounds_self_of_lt hl] at hz2; cases hz2⟩
  · rw [Array.getElem?_setIfInBounds_ne (by decide), Array.getElem?_setIfInBounds_ne (by decide), e15]
    refine fun hz => ⟨(h.n2 hz).1, (h.n2 hz).2.1, fun hz2 => ?_⟩
    have hb := (h.n2 hz).2.2 hz2
    exact (hg.block _ hb.lt (fun e => by have := hav _ e.symm; have := (h.n2 hz).2.1; omega)).trans hb
  · have := (h.c17 ((set_at 17 hz).resolve_left (by decide))).2.1
    rw [h7] at this; cases this
  · exact (hg.block b (Nat.lt_of_lt_of_le h1 h.sz) (fun e => h2 e.symm)).trans (h.keep b h1 h2 h3)
  · exact h.bel.grown hg (Nat.le_trans hT h.sz) fun j ej => (World.ownsRow.lt hc j ej).1
theorem R23.app2 (h : R23 T Z ob k op av sk all ok p listed v W) (h7 : listed[7]? = some true) (h16 : listed[16]? = some false) (hT : T ≤ Z.heap.size) (hap : ∀ g, sk.ownBlock = some g → av.ownBlock ≠ some g) (hsk : ∀ g, sk.ownBlock = some g → g < Z.heap.size) {g cap : Nat} (hg : W.grownBy W' sk.ownBlock) (hgg : sk.ownBlock = some g ∨ g = W.heap.size)
    (ho : W'.ownsRow T 62 2 (.slice (some ⟨g, 0, none⟩) (ok.length + 1) cap) (ok.length + 1) (ok.flatMap laC ++ laC p)) : R23 T Z ob k op av sk all ok p (listed.setIfInBounds 16 true) (updC v 16 (.slice (some ⟨g, 0, none⟩) (ok.length + 1) cap)) W' := by
  have hl : 16 < listed.size := (Array.getElem?_eq_some_iff.1 h16).1
  have hc := h.s0 h16
  obtain ⟨ha, hs, hw⟩ := h.a1 h7
  have e6 : updC v 16 (.slice (some ⟨g, 0, none⟩) (ok.length + 1) cap) 6 = v 6 := updC_ne (by decide)
  have e7 : updC v 16 (.slice (some ⟨g, 0, none⟩) (ok.length + 1) cap) 7 = v 7 := updC_ne (by decide)
  have e15 : updC v 16 (.slice (some ⟨g, 0, none⟩) (ok.length + 1) cap) 15 = v 15 := updC_ne (by decide)
  have hob : (v 7).ownBlock = some (blkS (v 7)) := by rw [hs]; rfl
  have hne : ∀ q, (v 7).ownBlock = some q → sk.ownBlock ≠ some q := fun q hq e => by
    rw [hob] at hq
    injection hq with hq
    subst hq
    rcases hw with hw | hw
    · exact hap _ e hw
    · have := hsk _ e; omega
  refine ⟨h.put trivial, fun hz => ?_, ?_, fun hz => ?_, fun _ => ?_, ?_, ?_, fun hz => ?_, fun b h1 h2 h3 => ?_, Nat.le_trans h.sz hg.size, ?_⟩
  · rw [Array.getElem?_setIfInBounds_ne (by decide), h7] at hz; cases hz
  · rw [Array.getElem?_setIfInBounds_ne (by decide), e7]
    exact fun _ => ⟨own_apart ha hg hne, hs, hw⟩
  · rw [Array.getElem?_setIfInBounds_self_of_lt hl] at hz; cases hz
  · rw [updC_eq, e7]
    refine ⟨?_, rfl, hgg.imp id fun e => ?_, ?_, set_keep h7⟩
    · unfold OwnL
      rw [List.length_append, List.flatMap_append, List.flatMap_singleton]
      exact ho
    · show Z.heap.size ≤ g
      rw [e]
      exact h.sz
    · show blkS (v 7) ≠ g
      rcases hgg with e | e
      · intro e2
        exact hne _ hob (by rw [e2]; exact e)
      · have := (World.ownsRow.lt ha _ hob).2
        omega
  · rw [Array.getElem?_setIfInBounds_ne (by decide), Array.getElem?_setIfInBounds_ne (by decide), e6]
    exact fun hz => ⟨(h.n1 hz).1, (h.n1 hz).2.1, fun hz2 => by rw [h7] at hz2; cases hz2⟩
  · rw [Array.getElem?_setIfInBounds_ne (by decide), e15]
    exact fun hz => ⟨(h.n2 hz).1, (h.n2 hz).2.1, fun hz2 => by rw [Array.getElem?_setIfInBounds_self_of_lt hl] at hz2; cases hz2⟩
  · have := (h.c17 ((set_at 17 hz).resolve_left (by decide))).2.2
    rw [h16] at this; cases this
  · exact (hg.block b (Nat.lt_of_lt_of_le h1 h.sz) (fun e => h3 e.symm)).trans (h.keep b h1 h2 h3)
  · exact h.bel.grown hg (Nat.le_trans hT h.sz) fun j ej => (World.ownsRow.lt hc j ej).1
/-- A launch is counted. -/
theorem HoI.count {B cb m rb ub : Nat} {w0 : World} {cs : Array Value} {Y : Ly} {x : Gt} {sv : Nat → Value} {one : Nat → List La} {rn un : Nat → Int} {jv : Value} {LL : JL} (H : HoI B T w0 cb m cs Y x rb ub ob av sv all one rn un jv LL Z) (hk : k < m) (R : R23 T Z ob k op av (sv k) all (one k) p listed v W) (h7 : listed[7]? = some true) (h16 : listed[16]? = some true) :
    HoI B T w0 cb m cs Y x rb ub ob (v 7) (fun i => if i = k then v 16 else sv i) (all ++ [p]) (updL one k (one k ++ [p])) rn un jv LL (W.setCell ⟨ob, k, none⟩ (v 16)) := by
  obtain ⟨ha, hs7, hw7⟩ := R.a1 h7
  obtain ⟨hb, hs16, hw16, hne, -⟩ := R.s1 h16
  have kp : ∀ {b : Nat} {t : TypeId} {ds : Array Value}, Blk Z b t ds → 62 ≠ t → Blk W b t ds := fun hbk hne => R.blk hbk (fun e => own_blk_ne H.a hbk hne e.symm) (fun e => own_blk_ne (H.s k hk) hbk hne e.symm)
  obtain ⟨oc, ho, hov⟩ := H.o
  have hoW := kp ho (by decide)
  have kq : ∀ {b : Nat} {t : TypeId} {ds : Array Value}, Blk Z b t ds → 62 ≠ t → t ≠ 37 → Blk (W.setCell ⟨ob, k, none⟩ (v 16)) b t ds := fun hbk h1 h2 => (kp hbk h1).far (blk_ne (kp hbk h1) hoW h2) _
  have o7 : (v 7).ownBlock = some (blkS (v 7)) := by rw [hs7]; rfl
  have o16 : (v 16).ownBlock = some (blkS (v 16)) := by rw [hs16]; rfl
  have lt : ∀ i, i < m → ∀ g, (sv i).ownBlock = some g → g < Z.heap.size := fun i hi => own_len (H.s i hi)
  have hbT : Below T Z (W.setCell ⟨ob, k, none⟩ (v 16)) := R.bel.setCell H.lo.2.2.1 _
  refine ⟨H.h.farT (by rw [H.n]; exact H.sup) hbT H.lo.2.2.2, kq H.c (by decide) (by decide), H.n, H.r.imp fun _ h => ⟨kq h.1 (by decide) (by decide), h.2⟩, H.u.imp fun _ h => ⟨kq h.1 (by decide) (by decide), h.2⟩, ⟨_, hoW.set_ k _, hov.set hk _⟩, own_set ha hoW (by decide) _ _, fun i hi => ?_, fun i hi g hg => ?_, fun q hq i hi hiq g hg => ?_, H.sup, H.lo, ?_⟩
  · show OwnL T (if i = k then v 16 else sv i) (updL one k (one k ++ [p]) i) _
    unfold updL
    by_cases e : i = k
    · rw [if_pos e, if_pos e]
      exact own_set hb hoW (by decide) _ _
    · rw [if_neg e, if_neg e]
      have h0 := H.s i hi
      have h1 : OwnL T (sv i) (one i) W := ⟨h0.1, h0.2.imp id fun ⟨g, cap, cur, a1, a2, a3, a4⟩ => ⟨g, cap, cur, a1, a2, (R.keep g (Array.getElem?_eq_some_iff.1 a3).1 (H.ap i hi g (by rw [a1]; rfl)) (H.sp k hk i hi e g (by rw [a1]; rfl))).trans a3, a4⟩⟩
      exact own_set h1 hoW (by decide) _ _
  · have hg : (if i = k then v 16 else sv i).ownBlock = some g := hg
    rw [o7]
    intro e7
    injection e7 with e7
    by_cases e : i = k
    · rw [if_pos e, o16] at hg
      injection hg with hg
      exact hne (e7.trans hg.symm)
    · rw [if_neg e] at hg
      have h1 := lt i hi g hg
      rcases hw7 with h2 | h2
      · exact H.ap i hi g hg (by rw [← e7]; exact h2)
      · omega
  · have hg : (if i = k then v 16 else sv i).ownBlock = some g := hg
    show (if q = k then v 16 else sv q).ownBlock ≠ some g
    by_cases eq : q = k
    · rw [if_pos eq, o16]
      intro e
      injection e with e
      rw [if_neg (by omega)] at hg
      have h1 := lt i hi g hg
      rcases hw16 with h2 | h2
      · exact H.sp k hk i hi (by omega) g hg (by rw [← e]; exact h2)
      · omega
    · rw [if_neg eq]
      by_cases ei : i = k
      · rw [if_pos ei, o16] at hg
        injection hg with hg
        intro e
        have h1 := lt q hq g e
        rcases hw16 with h2 | h2
        · exact H.sp q hq k hk (by omega) (blkS (v 16)) h2 (by rw [hg]; exact e)
        · omega
      · rw [if_neg ei] at hg
        exact H.sp q hq i hi hiq g hg
  · have h0 := H.jobs
    have h1 : OwnsC B jv LL W := ⟨h0.1, h0.2.imp id fun ⟨g, cap, cur, a1, a2, a3, a4⟩ => ⟨g, cap, cur, a1, a2, kp (show Blk Z g 57 cur from a3) (by decide), a4⟩⟩
    exact own_set h1 hoW (by decide) _ _
end
/-- All that holds in the rounds of AdmitHolds. -/
structure HoJ (B T : Nat) (w0 : World) (cb m : Nat) (cs : Array Value) (Y : Ly) (rb ub ob : Nat) (jv : Value) (LL : JL) (G : Gl) (n : Nat) (now : Int) (x : Gt) (av : Value) (sv : Nat → Value) (all : List La) (one : Nat → List La) (rn un : Nat → Int) (W : World) : Prop where
  i : HoI B T w0 cb m cs Y x rb ub ob av sv all one rn un jv LL W
  p : HoP x now all one un
  s : Sm x now
  q : PolOk G LL x
  rn : ∀ (q : Nat) (j : Jt), x.js[q]? = some j → rn q = j.runs
  la : all.length ≤ n
  lo : ∀ q, (one q).length ≤ n
  t : 50 ≤ now ∧ now ≤ 50 + 7 * (n : Int)
section
variable {B T cb m rb ub ob n : Nat} {w0 W W' : World} {cs : Array Value} {Y : Ly} {x y : Gt} {av : Value} {sv : Nat → Value} {all : List La} {one : Nat → List La} {rn un : Nat → Int} {jv : Value} {LL : JL} {G : Gl} {now : Int}
theorem HoJ.below (H : HoJ B T w0 cb m cs Y rb ub ob jv LL G n now x av sv all one rn un W) (hb : Below W.heap.size W W') : HoJ B T w0 cb m cs Y rb ub ob jv LL G n now x av sv all one rn un W' := ⟨H.i.below hb, H.p, H.s, H.q, H.rn, H.la, H.lo, H.t⟩
theorem HoJ.later (H : HoJ B T w0 cb m cs Y rb ub ob jv LL G n now x av sv all one rn un W) {t : Int} (ht : now ≤ t) (h9 : t ≤ 50 + 7 * ((n + 1 : Nat) : Int)) : HoJ B T w0 cb m cs Y rb ub ob jv LL G (n + 1) t x av sv all one rn un W := ⟨H.i, H.p.later ht, H.s.later ht, H.q, H.rn, Nat.le_succ_of_le H.la, fun q => Nat.le_succ_of_le (H.lo q), by have := H.t; omega, h9⟩
end
theorem rn_set {x : Gt} {rn : Nat → Int} (h : ∀ (q : Nat) (j : Jt), x.js[q]? = some j → rn q = j.runs) (k : Nat) (j' : Jt) {c : Int} {b : Lm} {t : Int} : ∀ (q : Nat) (j : Jt), (⟨c, b, x.js.set k j', t⟩ : Gt).js[q]? = some j → updI rn k j'.runs q = j.runs := fun q j hj => by
  have hj : (x.js.set k j')[q]? = some j := hj
  rw [List.getElem?_set] at hj
  unfold updI
  by_cases e : k = q
  · rw [if_pos e] at hj
    split at hj
    · injection hj with hj
      rw [if_pos e.symm, hj]
    · cases hj
  · rw [if_neg e] at hj
    rw [if_neg fun h => e h.symm]
    exact h q j hj
end Go.Proofs.YtpgckpafjiojfaaGreatDoor.AD
