/- Walk of ConfigFlaws. -/
import Derived.Test.YtihadbkjfocdoaaGreatDoorCFlM
import Derived.Test.YtihadbkjfocdoaaGreatDoorCOthM
namespace Go.Proofs.YtihadbkjfocdoaaGreatDoor.BW
open Go.RowKit BM Go.Shelf MC RK
open BK hiding ret_bool ret_i64

/-- The plans of M use the memory of those of L. -/
def SamePl (L M : JL) : Prop := ∀ i (hi : i < M.length), ∃ j, ∃ hj : j < L.length, M[i].1.p.x = L[j].1.p.x ∧ M[i].1.p.a = L[j].1.p.a ∧ M[i].1.p.n = L[j].1.p.n ∧ M[i].2 = L[j].2
theorem SamePl.refl (L : JL) : SamePl L L := fun i hi => ⟨i, hi, rfl, rfl, rfl, rfl⟩
theorem SamePl.snoc {L M : JL} (h : SamePl L M) {k : Nat} (hk : k < L.length) : SamePl L (M ++ [L[k]]) := fun i hi => by
  rcases Nat.lt_or_ge i M.length with h1 | h1
  · obtain ⟨j, hj, h2⟩ := h i h1
    refine ⟨j, hj, ?_⟩
    rw [List.getElem_append_left h1]; exact h2
  · refine ⟨k, hk, ?_⟩
    rw [List.getElem_append_right h1]
    simp
theorem SamePl.snocy {L M : JL} (h : SamePl L M) {k : Nat} (hk : k < L.length) {y : Jb × List (Int × Int)} (hy : L[k] = y) : SamePl L (M ++ [y]) := by subst hy; exact h.snoc hk
theorem flaw4y {g : Gl} {L : JL} (h : CfOk g L) {k : Nat} (hk : k < L.length) (h64 : L.length ≠ 64) {y : Jb × List (Int × Int)} (hy : L[k] = y) : Flaw g g L (L ++ [y]) 6 := by subst hy; exact flaw4 h hk h64
theorem SamePl.set {L : JL} {k : Nat} (hk : k < L.length) {y : Jb × List (Int × Int)} (hy : y.1.p.x = L[k].1.p.x ∧ y.1.p.a = L[k].1.p.a ∧ y.1.p.n = L[k].1.p.n ∧ y.2 = L[k].2) : SamePl L (L.set k y) := fun i hi => by
  have hi' : i < L.length := by simpa using hi
  by_cases e : k = i
  · subst e
    refine ⟨k, hk, ?_⟩
    rw [List.getElem_set_self]; exact hy
  · refine ⟨i, hi', ?_⟩
    rw [List.getElem_set_ne e]; exact ⟨rfl, rfl, rfl, rfl⟩
theorem arg_of {W : World} {c : Cf} {L M : JL} (hA : CArg W c L) {g' : Gl} (hsd : g'.sd = c.g.sd) {g : Nat} (cap : Nat) (hr : RowC W g M) (hs : SamePl L M) (hn : M.length ≤ 200) : CArg W ⟨g', some ⟨g, 0, none⟩, M.length, cap⟩ M := by
  refine ⟨⟨rfl, fun i hi => ?_, by rw [hsd]; exact hA.in_.sd⟩, hn, fun i hi => ?_, hA.st, hA.tab⟩
  · obtain ⟨j, hj, h1, h2, h3, h4⟩ := hs i hi
    obtain ⟨_, _, _, _, hp⟩ := hA.in_.at_ j hj
    exact ⟨g, 0, rfl, fun m hm => by rw [Nat.zero_add]; exact (hr i hi m hm).1, by rw [h1]; exact hp.x, by rw [h3, h4]; exact hp.n, by rw [h2, h4]; exact hp.at_⟩
  · obtain ⟨j, hj, _, _, h3, _⟩ := hs i hi
    rw [h3]; exact hA.p9 j hj
/-- A cell of one job is written. -/
theorem RowC.set1 {W : World} {g : Nat} {L : JL} (h : RowC W g L) {k : Nat} (hk : k < L.length) {j : Nat} (hj : j < 30) (u : Value) (y : Jb × List (Int × Int)) (hy : ∀ i, i < 30 → (jbV y.1)[i]? = if i = j then some u else (jbV L[k].1)[i]?) : RowC (W.setCell ⟨g, k * 30 + j, none⟩ u) g (L.set k y) := fun i hi m hm => by
  have hi' : i < L.length := by simpa using hi
  refine ⟨?_, by rw [World.frozen?_setCell]; exact (h i hi' m hm).2⟩
  have hold := (h i hi' m hm).1
  by_cases e : k = i
  · subst e
    rw [List.getElem_set_self, hy m hm]
    by_cases e2 : m = j
    · subst e2
      rw [if_pos rfl]
      rw [Array.getElem?_eq_getElem (show m < (jbV L[k].1).size from hm)] at hold
      exact World.cell?_setCell_same _ _ _ hold
    · rw [if_neg e2, ← hold]
      exact World.cell?_setCell_other _ _ _ _ (by simp <;> omega)
  · rw [List.getElem_set_ne e, ← hold]
    exact World.cell?_setCell_other _ _ _ _ (by simp <;> omega)
/-- A law's configuration in its box. -/
structure LwF (w : World) (c : Cf) (L : JL) (W : World) : Prop where
  box : Blk W w.heap.size 29 (cfV c)
  arg : CArg W c L
  below : Below w.heap.size w W
theorem LwF.next {w : World} {c : Cf} {L : JL} {X Y : World} (h : LwF w c L X) (hb : Below X.heap.size X Y) : LwF w c L Y := ⟨h.box.below hb h.box.lt, h.arg.below hb, h.below.trans (hb.mono h.below.size)⟩
theorem LwF.cells {w : World} {c : Cf} {L : JL} {W : World} (h : LwF w c L W) : W.cell? ⟨w.heap.size, 0, none⟩ = some (.int .i64 c.g.cap) ∧ W.cell? ⟨w.heap.size, 1, none⟩ = some (.int .i64 c.g.q) ∧ W.cell? ⟨w.heap.size, 2, none⟩ = some (.int .i64 c.g.ar) ∧ W.cell? ⟨w.heap.size, 3, none⟩ = some (.int .i64 c.g.ag) ∧ W.cell? ⟨w.heap.size, 4, none⟩ = some (.int .u64 c.g.sd) ∧ W.cell? ⟨w.heap.size, 5, none⟩ = some (.int .i64 c.g.t) ∧ W.cell? ⟨w.heap.size, 6, none⟩ = some (.int .i64 c.g.tau) ∧ W.cell? ⟨w.heap.size, 7, none⟩ = some (.slice c.a c.n c.c) :=
  ⟨h.box.cell 0, h.box.cell 1, h.box.cell 2, h.box.cell 3, h.box.cell 4, h.box.cell 5, h.box.cell 6, h.box.cell 7⟩
/-- The copy that is made wrong: its box is block w3.heap.size, its jobs are M in block g. -/
structure RwF (w3 : World) (g cap : Nat) (c : Cf) (M : JL) (W : World) : Prop where
  b3 : Below w3.heap.size w3 W
  bx : Blk W w3.heap.size 29 (cfV ⟨c.g, some ⟨g, 0, none⟩, M.length, cap⟩)
  own : OwnsC (w3.heap.size + 1) (.slice (some ⟨g, 0, none⟩) M.length cap) M W
theorem OwnsC.gge {B g n cap : Nat} {L : JL} {W : World} (h : OwnsC B (.slice (some ⟨g, 0, none⟩) n cap) L W) : B ≤ g := h.block g rfl
/-- What holds where the ways meet: the changed configuration, and its error. -/
def JnF (w w3 : World) (c : Cf) (L : JL) (s : Value) (W : World) : Prop := ∃ g' M a n cap E, Flaw c.g g' L M E ∧ s = .int .i64 E ∧ Blk W w3.heap.size 29 (cfV ⟨g', a, n, cap⟩) ∧ CArg W ⟨g', a, n, cap⟩ M ∧ LwF w c L W
theorem jn_of {w w3 X : World} {c : Cf} {L M : JL} {g cap : Nat} {g' : Gl} {E : Int} (hI : LwF w c L w3) (hf : Flaw c.g g' L M E) (hsd : g'.sd = c.g.sd) (hs : SamePl L M) (hb : Below w3.heap.size w3 X) (hx : Blk X w3.heap.size 29 (cfV ⟨g', some ⟨g, 0, none⟩, M.length, cap⟩)) (hr : RowC X g M) : JnF w w3 c L (.int .i64 E) X :=
  ⟨g', M, _, _, cap, E, hf, rfl, hx, arg_of (hI.next hb).arg hsd cap hr hs (by have := hf.few; omega), hI.next hb⟩
theorem jn_glob {w w3 W : World} {c : Cf} {L : JL} {g cap : Nat} {g' : Gl} {E : Int} (hI : LwF w c L w3) (h : RwF w3 g cap c L W) (hf : Flaw c.g g' L L E) (hsd : g'.sd = c.g.sd) {o : Nat} {u : Value} (hx : (cfV ⟨c.g, some ⟨g, 0, none⟩, L.length, cap⟩).setIfInBounds o u = cfV ⟨g', some ⟨g, 0, none⟩, L.length, cap⟩) : JnF w w3 c L (.int .i64 E) (W.setCell ⟨w3.heap.size, o, none⟩ u) :=
  jn_of hI hf hsd (SamePl.refl L) (h.b3.setCell (Nat.le_refl _) u) (by rw [← hx]; exact h.bx.set_ o u) (h.own.row.far (by have := h.own.gge; omega) u)
theorem jn_glob2 {w w3 W : World} {c : Cf} {L : JL} {g cap : Nat} {g' : Gl} {E : Int} (hI : LwF w c L w3) (h : RwF w3 g cap c L W) (hf : Flaw c.g g' L L E) (hsd : g'.sd = c.g.sd) {o o2 : Nat} {u u2 : Value} (hx : ((cfV ⟨c.g, some ⟨g, 0, none⟩, L.length, cap⟩).setIfInBounds o u).setIfInBounds o2 u2 = cfV ⟨g', some ⟨g, 0, none⟩, L.length, cap⟩) : JnF w w3 c L (.int .i64 E) ((W.setCell ⟨w3.heap.size, o, none⟩ u).setCell ⟨w3.heap.size, o2, none⟩ u2) :=
  jn_of hI hf hsd (SamePl.refl L) ((h.b3.setCell (Nat.le_refl _) u).setCell (Nat.le_refl _) u2) (by rw [← hx]; exact (h.bx.set_ o u).set_ o2 u2) ((h.own.row.far (by have := h.own.gge; omega) u).far (by have := h.own.gge; omega) u2)
theorem jn_job {w w3 W : World} {c : Cf} {L : JL} {g cap : Nat} {E : Int} (hI : LwF w c L w3) (h : RwF w3 g cap c L W) {k : Nat} (hk : k < L.length) {y : Jb × List (Int × Int)} (hf : Flaw c.g c.g L (L.set k y) E) (hp : y.1.p.x = L[k].1.p.x ∧ y.1.p.a = L[k].1.p.a ∧ y.1.p.n = L[k].1.p.n ∧ y.2 = L[k].2) {j : Nat} (hj : j < 30) {u : Value} (hy : ∀ i, i < 30 → (jbV y.1)[i]? = if i = j then some u else (jbV L[k].1)[i]?) : JnF w w3 c L (.int .i64 E) (W.setCell ⟨g, k * 30 + j, none⟩ u) :=
  jn_of (cap := cap) hI hf rfl (SamePl.set hk hp) (h.b3.setCell (show w3.heap.size ≤ g by have := h.own.gge; omega) u) (by rw [List.length_set]; exact h.bx.far (by show w3.heap.size ≠ g; have := h.own.gge; omega) u) (h.own.row.set1 hk hj u y hy)
/-- What the operations of the region yield that appends one job. -/
def PA (B D b off n cc k g ml cap H : Nat) (x : Jb) (i : Nat) (v : Value) : Prop := match i with
  | 0 => v = .pointer (some ⟨D, 7, none⟩)
  | 1 => v = .slice (some ⟨g, 0, none⟩) ml cap
  | 2 => v = .pointer (some ⟨B, 7, none⟩)
  | 3 => v = .slice (some ⟨b, off, none⟩) n cc
  | 4 => v = .int .i64 k
  | 5 => v = .pointer (some ⟨b, off + k * 30, none⟩)
  | 6 => v = .agg (jbV x)
  | 7 => v = .slice (some ⟨H, 0, none⟩) 1 1
  | 9 => v = .pointer (some ⟨D, 7, none⟩)
  | _ => True
/-- Which operations each waits for, up to the append. -/
def depA : Nat → List Nat
  | 1 => [0]
  | 3 => [2]
  | 5 => [3, 4]
  | 6 => [5]
  | 7 => [6]
  | 8 => [1, 7]
  | _ => []
/-- The region that appends one job: what has come up, and the memory. -/
structure InvA (w3 X0 : World) (B b off g cap : Nat) (c : Cf) (k : Nat) (M : JL) (x : Jb) (l : List (Int × Int)) (listed : Array Bool) (v : Nat → Value) (W : World) : Prop where
  all : ∀ i, listed[i]? = some true → PA B w3.heap.size b off c.n c.c k g M.length cap X0.heap.size x i (v i)
  cl : ∀ i, listed[i]? = some true → ∀ j ∈ depA i, listed[j]? = some true
  ordA : listed[10]? = some true → ∀ j, j < 10 → listed[j]? = some true
  w0 : listed[7]? = some false → W = X0
  w7 : listed[7]? = some true → listed[8]? = some false → W = X0.alloc (.cells (jbV x) 60)
  w8 : listed[8]? = some true → listed[10]? = some false → ∃ g' cap', v 8 = .slice (some ⟨g', 0, none⟩) (M.length + 1) cap' ∧ OwnsC (w3.heap.size + 1) (.slice (some ⟨g', 0, none⟩) (M.length + 1) cap') (M ++ [(x, l)]) W ∧ Blk W w3.heap.size 29 (cfV ⟨c.g, some ⟨g, 0, none⟩, M.length, cap⟩) ∧ Below w3.heap.size w3 W
  fin : listed[10]? = some true → ∃ g' cap', RwF w3 g' cap' c (M ++ [(x, l)]) W
theorem cl_set {listed : Array Bool} {i : Nat} (h : ∀ i, listed[i]? = some true → ∀ j ∈ depA i, listed[j]? = some true) (hd : ∀ j ∈ depA i, listed[j]? = some true) : ∀ m, (listed.setIfInBounds i true)[m]? = some true → ∀ j ∈ depA m, (listed.setIfInBounds i true)[j]? = some true := fun m hm j hj => by
  have hl : listed[j]? = some true := by
    by_cases e : m = i
    · subst e; exact hd j hj
    · rw [set_ne e] at hm; exact h m hm j hj
  by_cases e : j = i
  · subst e; exact set_eq hl
  · rw [set_ne e]; exact hl
theorem opt_bool {listed : Array Bool} {i : Nat} (h : i < listed.size) : listed[i]? = some true ∨ listed[i]? = some false := by
  rw [Array.getElem?_eq_getElem h]
  cases listed[i] <;> simp
theorem InvA.ord {w3 X0 : World} {B b off g cap : Nat} {c : Cf} {k : Nat} {M : JL} {x : Jb} {l : List (Int × Int)} {listed : Array Bool} {v : Nat → Value} {W : World} (h : InvA w3 X0 B b off g cap c k M x l listed v W) (h1 : listed[1]? = some true) (h7 : listed[7]? = some true) : ∀ j, j < 8 → listed[j]? = some true := fun j hj => by
  have h6 := h.cl 7 h7 6 (by simp [depA])
  have h5 := h.cl 6 h6 5 (by simp [depA])
  have h4 := h.cl 5 h5 4 (by simp [depA])
  have h3 := h.cl 5 h5 3 (by simp [depA])
  have h2 := h.cl 3 h3 2 (by simp [depA])
  have h0 := h.cl 1 h1 0 (by simp [depA])
  obtain rfl | rfl | rfl | rfl | rfl | rfl | rfl | rfl : j = 0 ∨ j = 1 ∨ j = 2 ∨ j = 3 ∨ j = 4 ∨ j = 5 ∨ j = 6 ∨ j = 7 := by omega
  all_goals assumption
theorem InvA.open8 {w3 X0 : World} {B b off g cap : Nat} {c : Cf} {k : Nat} {M : JL} {x : Jb} {l : List (Int × Int)} {listed : Array Bool} {v : Nat → Value} {W : World} (h : InvA w3 X0 B b off g cap c k M x l listed v W) (hs : listed.size = 11) {i : Nat} (hi : i ≤ 8) (hli : listed[i]? = some false) : listed[8]? = some false ∧ listed[10]? = some false := by
  have h8 : listed[8]? = some false := by
    rcases opt_bool (listed := listed) (i := 8) (by omega) with h8 | h8
    · rcases Nat.lt_or_ge i 8 with h1 | h1
      · rw [h.ord (h.cl 8 h8 1 (by simp [depA])) (h.cl 8 h8 7 (by simp [depA])) i h1] at hli; cases hli
      · obtain rfl : i = 8 := by omega
        rw [h8] at hli; cases hli
    · exact h8
  refine ⟨h8, ?_⟩
  rcases opt_bool (listed := listed) (i := 10) (by omega) with h10 | h10
  · rw [h.ordA h10 8 (by decide)] at h8; cases h8
  · exact h10
/-- Till the append the memory is one of two. -/
theorem InvA.two {w3 X0 : World} {B b off g cap : Nat} {c : Cf} {k : Nat} {M : JL} {x : Jb} {l : List (Int × Int)} {listed : Array Bool} {v : Nat → Value} {W : World} (h : InvA w3 X0 B b off g cap c k M x l listed v W) (hs : listed.size = 11) {i : Nat} (hi : i ≤ 8) (hli : listed[i]? = some false) : Below X0.heap.size X0 W := by
  obtain ⟨h8, _⟩ := h.open8 hs hi hli
  rcases opt_bool (listed := listed) (i := 7) (by omega) with h7 | h7
  · rw [h.w7 h7 h8]; exact (Below.refl _ _).alloc (Nat.le_refl _) _
  · rw [h.w0 h7]; exact Below.refl _ _
theorem InvA.step {w3 X0 : World} {B b off g cap : Nat} {c : Cf} {k : Nat} {M : JL} {x : Jb} {l : List (Int × Int)} {listed : Array Bool} {v : Nat → Value} {W : World} (h : InvA w3 X0 B b off g cap c k M x l listed v W) (_hs : listed.size = 11) {i : Nat} {u : Value} (hi : i < 7 ∨ i = 9) (hli : listed[i]? = some false) (hd : ∀ j ∈ depA i, listed[j]? = some true) (hp : PA B w3.heap.size b off c.n c.c k g M.length cap X0.heap.size x i u) : InvA w3 X0 B b off g cap c k M x l (listed.setIfInBounds i true) (updC v i u) W := by
  have e7 : (listed.setIfInBounds i true)[7]? = listed[7]? := set_ne (by omega) _
  have e8 : (listed.setIfInBounds i true)[8]? = listed[8]? := set_ne (by omega) _
  have e10 : (listed.setIfInBounds i true)[10]? = listed[10]? := set_ne (by omega) _
  have u8 : updC v i u 8 = v 8 := if_neg (by omega)
  refine ⟨fun j hj => ?_, cl_set h.cl hd, fun h10 j hj => ?_, by rw [e7]; exact h.w0, by rw [e7, e8]; exact h.w7, by rw [e8, e10, u8]; exact h.w8, by rw [e10]; exact h.fin⟩
  · unfold updC
    by_cases e : j = i
    · subst e; rw [if_pos rfl]; exact hp
    · rw [if_neg e]
      rw [set_ne e] at hj
      exact h.all j hj
  · rw [e10] at h10
    by_cases e : j = i
    · subst e; exact set_eq hli
    · rw [set_ne e]; exact h.ordA h10 j hj
theorem InvA.step7 {w3 X0 : World} {B b off g cap : Nat} {c : Cf} {k : Nat} {M : JL} {x : Jb} {l : List (Int × Int)} {listed : Array Bool} {v : Nat → Value} (h : InvA w3 X0 B b off g cap c k M x l listed v X0) (hs : listed.size = 11) (hli : listed[7]? = some false) (hd : ∀ j ∈ depA 7, listed[j]? = some true) : InvA w3 X0 B b off g cap c k M x l (listed.setIfInBounds 7 true) (updC v 7 (.slice (some ⟨X0.heap.size, 0, none⟩) 1 1)) (X0.alloc (.cells (jbV x) 60)) := by
  obtain ⟨h8, h10⟩ := h.open8 hs (by decide) hli
  have e8 : (listed.setIfInBounds 7 true)[8]? = listed[8]? := set_ne (by omega) _
  have e10 : (listed.setIfInBounds 7 true)[10]? = listed[10]? := set_ne (by omega) _
  have e7 := set_eq hli
  refine ⟨fun j hj => ?_, cl_set h.cl hd, fun h => (by rw [e10, h10] at h; cases h), fun h => (by rw [e7] at h; cases h), fun _ _ => rfl, fun h => (by rw [e8, h8] at h; cases h), fun h => (by rw [e10, h10] at h; cases h)⟩
  unfold updC
  by_cases e : j = 7
  · subst e; rw [if_pos rfl]; rfl
  · rw [if_neg e]
    rw [set_ne e] at hj
    exact h.all j hj
theorem InvA.step8 {w3 X0 W : World} {B b off g cap : Nat} {c : Cf} {k : Nat} {M : JL} {x : Jb} {l : List (Int × Int)} {listed : Array Bool} {v : Nat → Value} {Y : World} (h : InvA w3 X0 B b off g cap c k M x l listed v W) (hs : listed.size = 11) (hdep : ∀ j, j < 8 → listed[j]? = some true) (hli : listed[8]? = some false) {u : Value} {g' cap' : Nat} (hu : u = .slice (some ⟨g', 0, none⟩) (M.length + 1) cap')
    (ho : OwnsC (w3.heap.size + 1) (.slice (some ⟨g', 0, none⟩) (M.length + 1) cap') (M ++ [(x, l)]) Y) (hbx : Blk Y w3.heap.size 29 (cfV ⟨c.g, some ⟨g, 0, none⟩, M.length, cap⟩)) (hb : Below w3.heap.size w3 Y) : InvA w3 X0 B b off g cap c k M x l (listed.setIfInBounds 8 true) (updC v 8 u) Y := by
  obtain ⟨h8, h10⟩ := h.open8 hs (by decide) hli
  have e7 : (listed.setIfInBounds 8 true)[7]? = listed[7]? := set_ne (by omega) _
  have e10 : (listed.setIfInBounds 8 true)[10]? = listed[10]? := set_ne (by omega) _
  have e8 := set_eq hli
  refine ⟨fun j hj => ?_, cl_set h.cl (fun j hj => hdep j (by simp [depA] at hj; omega)), fun h => (by rw [e10, h10] at h; cases h), fun h => (by rw [e7, hdep 7 (by decide)] at h; cases h), fun _ h => (by rw [e8] at h; cases h), fun _ _ => ⟨g', cap', by rw [← hu]; exact if_pos rfl, ho, hbx, hb⟩, fun h => (by rw [e10, h10] at h; cases h)⟩
  · unfold updC
    by_cases e : j = 8
    · subst e; rw [if_pos rfl]; trivial
    · rw [if_neg e]
      rw [set_ne e] at hj
      exact h.all j hj
theorem InvA.step10 {w3 X0 W : World} {B b off g cap : Nat} {c : Cf} {k : Nat} {M : JL} {x : Jb} {l : List (Int × Int)} {listed : Array Bool} {v : Nat → Value} (h : InvA w3 X0 B b off g cap c k M x l listed v W) (hdep : ∀ j, j < 10 → listed[j]? = some true) (hli : listed[10]? = some false) {g' cap' : Nat} (ho : OwnsC (w3.heap.size + 1) (.slice (some ⟨g', 0, none⟩) (M.length + 1) cap') (M ++ [(x, l)]) W) (hbx : Blk W w3.heap.size 29 (cfV ⟨c.g, some ⟨g, 0, none⟩, M.length, cap⟩)) (hb : Below w3.heap.size w3 W) :
    InvA w3 X0 B b off g cap c k M x l (listed.setIfInBounds 10 true) v (W.setCell ⟨w3.heap.size, 7, none⟩ (.slice (some ⟨g', 0, none⟩) (M.length + 1) cap')) := by
  have e7 : (listed.setIfInBounds 10 true)[7]? = some true := by rw [set_ne (by omega)]; exact hdep 7 (by decide)
  have e8 : (listed.setIfInBounds 10 true)[8]? = some true := by rw [set_ne (by omega)]; exact hdep 8 (by decide)
  have e10 := set_eq hli
  refine ⟨fun j hj => ?_, cl_set h.cl (fun j hj => by simp [depA] at hj), fun _ j hj => by rw [set_ne (by omega)]; exact hdep j hj, fun h => (by rw [e7] at h; cases h), fun _ h => (by rw [e8] at h; cases h), fun _ h => (by rw [e10] at h; cases h), fun _ => ⟨g', cap', hb.setCell (Nat.le_refl _) _, ?_, ?_⟩⟩
  · by_cases e : j = 10
    · subst e; trivial
    · rw [set_ne e] at hj
      exact h.all j hj
  · have := hbx.set_ 7 (.slice (some ⟨g', 0, none⟩) (M.length + 1) cap')
    simpa [cfV] using this
  · have h2 := ho.far (b := w3.heap.size) (j := 7) (by omega) (.slice (some ⟨g', 0, none⟩) (M.length + 1) cap')
    rw [List.length_append]
    exact h2
theorem EqA.job {W : World} {a : Option Addr} {n : Nat} {L : JL} (h : EqA W a n L) {b off : Nat} (ha : a = some ⟨b, off, none⟩) {k : Nat} (hk : k < n) {x : Jb} {l : List (Int × Int)} (hx : L[k]? = some (x, l)) : JbAt W b (off + k * 30) x := by
  have hkl : k < L.length := by rw [h.n]; exact hk
  obtain ⟨b', off', e, hcl, _⟩ := h.at_ k hkl
  rw [ha] at e
  injection e with e
  injection e with e1 e2 _
  subst e1 e2
  rw [List.getElem?_eq_getElem hkl] at hx
  injection hx with hx
  rw [hx] at hcl
  exact hcl
theorem made_job (W : World) {H base : Nat} (hH : W.heap.size = H) (hb : base ≤ H) : (W.alloc (.cells #[] 60)).ownsRow base 60 30 (.slice (some ⟨H, 0, none⟩) 0 0) 0 [] := by
  subst hH
  exact World.ownsRow_made W #[] 0 hb (Nat.zero_le _) rfl
/-- The copy of the list of jobs. -/
theorem start_F {w3 w4 w5 : World} {c : Cf} {L : JL} {v' : Value} {a0 : Option Addr} (hb : Below w3.heap.size w3 w4) (hx : Blk w4 w3.heap.size 29 #[.int .i64 c.g.cap, .int .i64 c.g.q, .int .i64 c.g.ar, .int .i64 c.g.ag, .int .u64 c.g.sd, .int .i64 c.g.t, .int .i64 c.g.tau, .slice a0 c.n c.c]) (hL : L.length = c.n) (h0 : 0 < c.n)
    (hown : w5.ownsRow (w3.heap.size + 1) 60 30 v' (0 + c.n) ([] ++ cellsJ L)) (hgrow : (w4.alloc (.cells #[] 60)).grownBy w5 (Value.ownBlock (.slice (some ⟨w3.heap.size + 1, 0, none⟩) 0 0))) (h4 : w4.heap.size = w3.heap.size + 1) :
    ∃ g cap, v' = .slice (some ⟨g, 0, none⟩) c.n cap ∧ Hid (OwnsC (w3.heap.size + 1) (.slice (some ⟨g, 0, none⟩) c.n cap) L w5) ∧ Hid (Below w3.heap.size w3 w5) ∧ Hid (Blk w5 w3.heap.size 29 #[.int .i64 c.g.cap, .int .i64 c.g.q, .int .i64 c.g.ar, .int .i64 c.g.ag, .int .u64 c.g.sd, .int .i64 c.g.t, .int .i64 c.g.tau, .slice a0 c.n c.c]) := by
  have ho : OwnsC (w3.heap.size + 1) v' L w5 := by
    unfold OwnsC
    rw [hL]
    simpa using hown
  obtain ⟨a, cap, e1, e2, e3⟩ := ho.shape
  obtain ⟨g, rfl⟩ := e3 (by omega)
  rw [hL] at e1
  refine ⟨g, cap, e1, Lib.hid (by rw [← e1]; exact ho), Lib.hid ?_, Lib.hid ?_⟩
  · refine (hb.alloc hb.size _).grown hgrow (by simp; have := hb.size; omega) (fun q hq => ?_)
    have : w3.heap.size + 1 = q := by simpa [Value.ownBlock] using hq
    omega
  · refine (hx.alloc _).grown hgrow (fun e => ?_)
    simp [Value.ownBlock] at e
def lenAt (D : Nat) (W : World) : Nat := match W.cell? ⟨D, 7, none⟩ with
  | some (.slice _ n _) => n
  | _ => 0
theorem RwF.lenAt {w3 : World} {g cap : Nat} {c : Cf} {M : JL} {W : World} (h : RwF w3 g cap c M W) : lenAt w3.heap.size W = M.length := by
  unfold BW.lenAt
  rw [show W.cell? ⟨w3.heap.size, 7, none⟩ = some (.slice (some ⟨g, 0, none⟩) M.length cap) from h.bx.cell 7]
set_option maxRecDepth 8000 in
set_option maxHeartbeats 16000000 in
theorem lcflaws_ok (c : Cf) (L : JL) (wh y : Nat) (hwh : wh < 256) (hy : y < 256) (w : World) (hp : CIn w c L ∧ c.n ≤ 9223372036854775807) (hT : SpTab w) (hTab : Tab w) : Calls Tryz.prog 4 #[.agg (cfV c), .int .u8 wh, .int .u8 y] w fun e w' => e = .returned (.bool true) ∧ Below w.heap.size w w' := by
  obtain ⟨hI, hn9⟩ := hp
  obtain ⟨W1, hW1⟩ : ∃ W1, W1 = w.alloc (.cells (cfV c) 29) := ⟨_, rfl⟩
  have hB : Below w.heap.size w W1 := by rw [hW1]; exact (Below.refl _ w).alloc (Nat.le_refl _) _
  have hx : Blk W1 w.heap.size 29 (cfV c) := by rw [hW1]; exact Blk.new w _ _
  have HT := Lib.hid (show ∀ W, Below w.heap.size w W → SpTab W ∧ Tab W from fun W hW => ⟨hT.below hW, tab_below hTab hW (tab_lt hTab)⟩)
  have CF := Lib.hid (few_ok c L W1 (hI.below hB) hn9)
  have HX := Lib.hid (And.intro hB hx)
  have HIN := Lib.hid hI
  have CW := Lib.hid (fun W (hW : Below w.heap.size w W) => cwk_ok W (HT.out W hW).1 (HT.out W hW).2)
  have CK := Lib.hid (fun W (h : CArg W c L) => ccheck_ok c L W h)
  generalize hE : cfE c.g L = E at *
  have HE := Lib.hid hE
  have HW := Lib.hid hW1
  have HY9 := Lib.hid hy
  have HWH := Lib.hid hwh
  rw [hW1] at CF
  rw [cfV_eq] at CF CK ⊢
  clear hE hW1 hB hx hI hT hTab hwh hy
  go_enter Tryz.func4, Tryz.ntmps4
  go_wp2_with fail
  refine (CF.out).mono ?_
  rintro e w2 (⟨rfl, hb⟩ | ⟨rfl, hf, hb⟩)
  · have hb : Below W1.heap.size W1 w2 := by rw [HW.out, cfV_eq]; exact hb
    have HB2 := Lib.hid (HX.out.1.trans (hb.mono HX.out.1.size))
    clear hb
    go_wp2_with fail
    refine (CW.out _ HB2.out).mono ?_
    rintro e w99 ⟨rfl, hb⟩
    have HB99 := Lib.hid (HB2.out.trans (hb.mono HB2.out.size))
    clear hb
    go_wp2_with fail
    go_ret
    exact ⟨rfl, HB99.out⟩
  · have hb : Below W1.heap.size W1 w2 := by rw [HW.out, cfV_eq]; exact hb
    have hb2 := HX.out.1.trans (hb.mono HX.out.1.size)
    have HI := Lib.hid (show LwF w c L w2 from ⟨HX.out.2.below hb HX.out.2.lt, hf.arg (HIN.out.below hb2) (HT.out _ hb2).1 (HT.out _ hb2).2, hb2⟩)
    have HFEW := Lib.hid hf
    obtain ⟨c0, c1, c2, c3, c4, c5, c6, c7⟩ := HI.out.cells
    clear hb hb2 hf
    go_wp2_with fail
    refine (CK.out _ HI.out.arg).mono ?_
    rintro e w3 ⟨rfl, hb⟩
    have HI := Lib.hid (HI.out.next hb)
    clear hb c0 c1 c2 c3 c4 c5 c6 c7
    obtain ⟨c0, c1, c2, c3, c4, c5, c6, c7⟩ := HI.out.cells
    rcases Decidable.em (E = 0) with hE0 | hne
    rotate_left
    · have q1 : (E != 0) = true := by simpa [bne_iff_ne] using hne
      clear hne
      go_wp2_with fail
      refine (CW.out _ HI.out.below).mono ?_
      rintro e w99 ⟨rfl, hb⟩
      have HB99 := Lib.hid (HI.out.below.trans (hb.mono HI.out.below.size))
      clear hb
      go_wp2_with fail
      go_ret
      exact ⟨rfl, HB99.out⟩
    subst hE0
    have HOK := Lib.hid (cfE_zero.1 HE.out)
    clear CK HE
    rcases Decidable.em (c.n = 0) with hn0 | hn0
    · have q1 : ((c.n : Int) == 0) = true := by rw [hn0]; rfl
      clear hn0
      go_wp2_with fail
      refine (CW.out _ HI.out.below).mono ?_
      rintro e w99 ⟨rfl, hb⟩
      have HB99 := Lib.hid (HI.out.below.trans (hb.mono HI.out.below.size))
      clear hb
      go_wp2_with fail
      go_ret
      exact ⟨rfl, HB99.out⟩
    have q1 : ((c.n : Int) == 0) = false := by rw [beq_eq_false_iff_ne]; omega
    have hcn : c.n ≤ 64 := by have := HOK.out.many; have := HIN.out.n; omega
    have hcn0 : 0 < c.n := by omega
    have HCN := Lib.hid (And.intro hcn0 hcn)
    obtain ⟨k, hk⟩ : ∃ k, y % c.n = k := ⟨_, rfl⟩
    have hkn : k < c.n := by rw [← hk]; exact Nat.mod_lt _ hcn0
    have HKN := Lib.hid hkn
    have q4 : (wrap64 (y : Int)).tmod (c.n : Int) = (k : Int) := by
      rw [← hk, show wrap64 (y : Int) = (y : Int) by have := HY9.out; unfold wrap64; omega]
      exact (Int.ofNat_tmod y c.n).symm
    obtain ⟨m, hm⟩ : ∃ m : Int, (wh : Int).tmod 8 = m := ⟨_, rfl⟩
    have hm2 : (wh : Int) % 8 = m := by rw [← hm]; exact (Int.tmod_eq_emod_of_nonneg (by omega)).symm
    have HM8 : Hid (0 ≤ m ∧ m < 8) := Lib.hid (by omega)
    obtain ⟨b, off, hca⟩ : ∃ b off, c.a = some ⟨b, off, none⟩ := by
      obtain ⟨b, off, e, _⟩ := HIN.out.at_ 0 (by rw [HIN.out.n]; exact hcn0)
      exact ⟨b, off, e⟩
    have HCA := Lib.hid hca
    have HLEN := Lib.hid (HIN.out.n)
    obtain ⟨x, l, hxk⟩ : ∃ x l, L[k]? = some (x, l) := ⟨_, _, List.getElem?_eq_getElem (by rw [HLEN.out]; exact hkn)⟩
    have HXK := Lib.hid hxk
    obtain ⟨i0, hi0, hz0, hz1, hz2⟩ := info_parts info_job
    have HJ3 := Lib.hid (fun W (hb : Below w3.heap.size w3 W) => by
      have := (HI.out.next hb).arg.in_.at_
      rw [hca] at this
      exact this)
    rw [hca] at c7
    have k1 : c.n ≤ maxLen := by unfold maxLen; omega
    have k2 : c.n * 256 ≤ 140737488355328 := by omega
    have hbw3 : w.heap.size < w3.heap.size := HI.out.box.lt
    clear hk hn0 hxk hca hcn hcn0
    have HB34 := Lib.hid (show Below w3.heap.size w3 (w3.alloc (.cells #[.int .i64 c.g.cap, .int .i64 c.g.q, .int .i64 c.g.ar, .int .i64 c.g.ag, .int .u64 c.g.sd, .int .i64 c.g.t, .int .i64 c.g.tau, .slice (some ⟨b, off, none⟩) c.n c.c] 29)) from (Below.refl _ _).alloc (Nat.le_refl _) _)
    have HJ4 : Hid (JobsAt (w3.alloc (.cells #[.int .i64 c.g.cap, .int .i64 c.g.q, .int .i64 c.g.ar, .int .i64 c.g.ag, .int .u64 c.g.sd, .int .i64 c.g.t, .int .i64 c.g.tau, .slice (some ⟨b, off, none⟩) c.n c.c] 29)) (some ⟨b, off, none⟩) L) := Lib.hid (HJ3.out _ HB34.out)
    have k1' : 0 + c.n ≤ maxLen := by omega
    have k2' : (0 + c.n) * 256 ≤ 140737488355328 := by omega
    have hbs1 : (w3.alloc (.cells #[.int .i64 c.g.cap, .int .i64 c.g.q, .int .i64 c.g.ar, .int .i64 c.g.ag, .int .u64 c.g.sd, .int .i64 c.g.t, .int .i64 c.g.tau, .slice (some ⟨b, off, none⟩) c.n c.c] 29)).heap.size = w3.heap.size + 1 := by simp
    have hbs2 : w3.heap.size + 1 ≤ ((w3.alloc (.cells #[.int .i64 c.g.cap, .int .i64 c.g.q, .int .i64 c.g.ar, .int .i64 c.g.ag, .int .u64 c.g.sd, .int .i64 c.g.t, .int .i64 c.g.tau, .slice (some ⟨b, off, none⟩) c.n c.c] 29)).alloc (.cells #[] 60)).heap.size := by simp
    have HQ2 : Hid (∀ (j : Nat) (u : Value), (cellsJ L)[j]? = some u → ((w3.alloc (.cells #[.int .i64 c.g.cap, .int .i64 c.g.q, .int .i64 c.g.ar, .int .i64 c.g.ag, .int .u64 c.g.sd, .int .i64 c.g.t, .int .i64 c.g.tau, .slice (some ⟨b, off, none⟩) c.n c.c] 29)).alloc (.cells #[] 60)).cell? ((⟨b, off, none⟩ : Addr).add j) = some u) := Lib.hid (fun j u hj => by
      rw [Addr.add_lit]
      exact Lib.cell?_alloc_some _ (cellsJ_at HJ4.out rfl j u hj))
    have HC7 : Hid (∀ W, Below w3.heap.size w3 W → W.cell? ⟨w.heap.size, 7, none⟩ = some (.slice (some ⟨b, off, none⟩) c.n c.c)) := Lib.hid (fun W hb => by
      have := (HI.out.next hb).box.cell 7
      rw [← HCA.out]; exact this)
    have HQ1 : Hid ((cellsJ L).length = c.n * 30) := Lib.hid (by rw [cellsJ_len, HLEN.out])
    go_upto_block 0 with (at_builtin; go_loud (refine wpList_append_own _ rfl _ _ 27 rfl (w3.heap.size + 1) 60 i0 (.agg zJ) 30 256 Tryz.underlying27 hi0 hz0 hz1 hz2 rfl (by decide) _ _ _ rfl (made_job _ hbs1 (Nat.le_refl _)) ⟨b, off, none⟩ c.n c.c (cellsJ L) rfl HQ1.out HQ2.out (cellsJ_one L) k1' k2' hbs2 ?_; intro v' w5 hown hgrow hnil; obtain ⟨g, cap, rfl, HO5, HB5, HX5⟩ := start_F HB34.out (Blk.new w3 _ _) HLEN.out HCN.out.1 hown hgrow hbs1; have d7 := (Blk.cell HX5.out 7); have fd7 := (Blk.frozen HX5.out 7); have c7 := HC7.out _ HB5.out; clear hown hgrow hnil))
    obtain ⟨W6, hW6⟩ : ∃ W6, W6 = w5.setCell ⟨w3.heap.size, 7, none⟩ (.slice (some ⟨g, 0, none⟩) c.n cap) := ⟨_, rfl⟩
    have HRW : Hid (RwF w3 g cap c L W6) := Lib.hid (by
      rw [hW6]
      refine ⟨HB5.out.setCell (Nat.le_refl _) _, ?_, ?_⟩
      · have := HX5.out.set_ 7 (.slice (some ⟨g, 0, none⟩) c.n cap)
        rw [HLEN.out]
        simpa [cfV] using this
      · rw [HLEN.out]; exact HO5.out.far (Nat.lt_succ_self _) _)
    have hms : m = 0 ∨ m = 1 ∨ m = 2 ∨ m = 3 ∨ m = 4 ∨ m = 5 ∨ m = 6 ∨ m = 7 := by have := HM8.out; omega
    have HMS := Lib.hid hms
    have hkl : k < L.length := by rw [HLEN.out]; exact HKN.out
    have HKL := Lib.hid hkl
    have hlk : L[k] = (x, l) := by
      have := HXK.out
      rw [List.getElem?_eq_getElem hkl] at this
      injection this
    have HLK := Lib.hid hlk
    rw [← hW6]
    clear hW6 d7 fd7 c0 c1 c2 c3 c4 c5 c6 c7 q1 q4 hm hm2 k1 k2 k1' k2' hbs1 hbs2 hms hkl hlk HQ1 HQ2 HJ4 HJ3 HM8 HB5 HO5 HX5
    have HRW0 : Hid (Blk W6 w3.heap.size 29 (cfV ⟨c.g, some ⟨g, 0, none⟩, c.n, cap⟩)) := Lib.hid (by have := HRW.out.bx; rw [HLEN.out] at this; exact this)
    go_cut [9] from 44 to 110 (fun s9 wx => JnF w w3 c L s9 wx)
    case first =>
      have d0 : W6.cell? ⟨w3.heap.size, 0, none⟩ = some (.int .i64 c.g.cap) := HRW0.out.cell 0
      have fd0 : W6.frozen? ⟨w3.heap.size, 0, none⟩ = false := HRW0.out.frozen 0
      have d1 : W6.cell? ⟨w3.heap.size, 1, none⟩ = some (.int .i64 c.g.q) := HRW0.out.cell 1
      have fd1 : W6.frozen? ⟨w3.heap.size, 1, none⟩ = false := HRW0.out.frozen 1
      have d2 : W6.cell? ⟨w3.heap.size, 2, none⟩ = some (.int .i64 c.g.ar) := HRW0.out.cell 2
      have fd2 : W6.frozen? ⟨w3.heap.size, 2, none⟩ = false := HRW0.out.frozen 2
      have d3 : W6.cell? ⟨w3.heap.size, 3, none⟩ = some (.int .i64 c.g.ag) := HRW0.out.cell 3
      have fd3 : W6.frozen? ⟨w3.heap.size, 3, none⟩ = false := HRW0.out.frozen 3
      have d4 : W6.cell? ⟨w3.heap.size, 4, none⟩ = some (.int .u64 c.g.sd) := HRW0.out.cell 4
      have fd4 : W6.frozen? ⟨w3.heap.size, 4, none⟩ = false := HRW0.out.frozen 4
      have d5 : W6.cell? ⟨w3.heap.size, 5, none⟩ = some (.int .i64 c.g.t) := HRW0.out.cell 5
      have fd5 : W6.frozen? ⟨w3.heap.size, 5, none⟩ = false := HRW0.out.frozen 5
      have d6 : W6.cell? ⟨w3.heap.size, 6, none⟩ = some (.int .i64 c.g.tau) := HRW0.out.cell 6
      have fd6 : W6.frozen? ⟨w3.heap.size, 6, none⟩ = false := HRW0.out.frozen 6
      have d7 : W6.cell? ⟨w3.heap.size, 7, none⟩ = some (.slice (some ⟨g, 0, none⟩) c.n cap) := HRW0.out.cell 7
      have fd7 : W6.frozen? ⟨w3.heap.size, 7, none⟩ = false := HRW0.out.frozen 7
      obtain rfl | rfl | rfl | rfl | rfl | rfl | rfl | rfl := HMS.out
      · have HJ : Hid (JnF w w3 c L (.int .i64 16) ((W6).setCell ⟨w3.heap.size, 0, none⟩ (.int .i64 0))) := Lib.hid (jn_glob HI.out HRW.out (flaw0 HOK.out) rfl (by simp [cfV]))
        go_wp2_with fail
        go_meet
        exact HJ.out
      · have HJ : Hid (JnF w w3 c L (.int .i64 16) ((W6).setCell ⟨w3.heap.size, 1, none⟩ (.int .i64 1025))) := Lib.hid (jn_glob HI.out HRW.out (flaw1 HOK.out) rfl (by simp [cfV]))
        go_wp2_with fail
        go_meet
        exact HJ.out
      · have HJ : Hid (JnF w w3 c L (.int .i64 16) ((((W6).setCell ⟨w3.heap.size, 5, none⟩ (.int .i64 0))).setCell ⟨w3.heap.size, 6, none⟩ (.int .i64 1))) := Lib.hid (jn_glob2 HI.out HRW.out (flaw2 HOK.out) rfl (by simp [cfV]))
        go_wp2_with fail
        go_meet
        exact HJ.out
      · have g0 : W6.cell? ⟨g, k * 30, none⟩ = some (.string x.nm) := by
          exact ((HRW.out.own.row k HKL.out 0 (by decide)).1).trans (congrArg (fun z : Jb × List (Int × Int) => (jbV z.1)[0]?) HLK.out)
        have fg0 : W6.frozen? ⟨g, k * 30, none⟩ = false := (HRW.out.own.row k HKL.out 0 (by decide)).2
        have HJ : Hid (JnF w w3 c L (.int .i64 15) (W6.setCell ⟨g, k * 30, none⟩ (.string ⟨#[97, 32, 98]⟩))) := Lib.hid (jn_job (j := 0) HI.out HRW.out HKL.out (flaw3 (s := ⟨#[97, 32, 98]⟩) HOK.out HKL.out (by decide)) ⟨rfl, rfl, rfl, rfl⟩ (by decide) (fun i hi => by
          obtain rfl | rfl | rfl | rfl | rfl | rfl | rfl | rfl | rfl | rfl | rfl | rfl | rfl | rfl | rfl | rfl | rfl | rfl | rfl | rfl | rfl | rfl | rfl | rfl | rfl | rfl | rfl | rfl | rfl | rfl : i = 0 ∨ i = 1 ∨ i = 2 ∨ i = 3 ∨ i = 4 ∨ i = 5 ∨ i = 6 ∨ i = 7 ∨ i = 8 ∨ i = 9 ∨ i = 10 ∨ i = 11 ∨ i = 12 ∨ i = 13 ∨ i = 14 ∨ i = 15 ∨ i = 16 ∨ i = 17 ∨ i = 18 ∨ i = 19 ∨ i = 20 ∨ i = 21 ∨ i = 22 ∨ i = 23 ∨ i = 24 ∨ i = 25 ∨ i = 26 ∨ i = 27 ∨ i = 28 ∨ i = 29 := by omega
          all_goals rfl))
        go_wp2_with fail
        go_meet
        exact HJ.out
      · have c7 : W6.cell? ⟨w.heap.size, 7, none⟩ = some (.slice (some ⟨b, off, none⟩) c.n c.c) := HC7.out _ HRW.out.b3
        rcases Decidable.em (c.n = 64) with h64 | h64
        · have q64 : ((c.n : Int) == 64) = true := by rw [h64]; rfl
          have HBW6 := Lib.hid (HI.out.below.trans (HRW.out.b3.mono HI.out.below.size))
          clear h64
          go_wp2_with fail
          refine (CW.out _ HBW6.out).mono ?_
          rintro e w99 ⟨rfl, hb⟩
          have HB99 := Lib.hid (HBW6.out.trans (hb.mono HBW6.out.size))
          clear hb
          go_wp2_with fail
          go_ret
          exact ⟨rfl, HB99.out⟩
        have q64 : ((c.n : Int) == 64) = false := by rw [beq_eq_false_iff_ne]; omega
        have H64 := Lib.hid h64
        clear h64
        obtain ⟨M, hM⟩ : ∃ M, M = L := ⟨_, rfl⟩
        have HMM := Lib.hid hM
        have HRW2 : Hid (RwF w3 g cap c M W6) := Lib.hid (by rw [hM]; exact HRW.out)
        obtain ⟨X0, hX0⟩ : ∃ X0, W6.drew = X0 := ⟨_, rfl⟩
        have hbX : Below W6.heap.size W6 X0 := by rw [← hX0]; exact below_drewN (Below.refl _ _) 1
        have HX0 := Lib.hid hX0
        have HB30 := Lib.hid (HRW2.out.b3.trans (hbX.mono HRW2.out.b3.size))
        have HWS := Lib.hid (Nat.lt_of_lt_of_le HRW2.out.bx.lt hbX.size)
        have HWS2 : Hid (w3.heap.size + 1 ≤ (X0.alloc (.cells (jbV x) 60)).heap.size) := Lib.hid (by rw [World.size_alloc]; have := HWS.out; omega)
        have HOW : Hid (X0.ownsRow (w3.heap.size + 1) 60 30 (.slice (some ⟨g, 0, none⟩) M.length cap) M.length (cellsJ M)) := Lib.hid (OwnsC.below HRW2.out.own hbX)
        have HBX0 := Lib.hid (HRW2.out.bx.below hbX HRW2.out.bx.lt)
        have hlwX := HI.out.next HB30.out
        have hjb := EqA.job ⟨hlwX.arg.in_.n, hlwX.arg.in_.at_, hlwX.arg.p9⟩ HCA.out HKN.out HXK.out
        have hbb : b < X0.heap.size := World.block_lt_of_cell? X0 _ hjb.name
        have HCE : Hid ((∀ wx, Below X0.heap.size X0 wx → wx.cell? ⟨w3.heap.size, 7, none⟩ = some (.slice (some ⟨g, 0, none⟩) M.length cap)) ∧ (∀ wx, Below X0.heap.size X0 wx → wx.cell? ⟨w.heap.size, 7, none⟩ = some (.slice (some ⟨b, off, none⟩) c.n c.c)) ∧ ∀ wx, Below X0.heap.size X0 wx → (loadVar 60 ⟨b, off + k * 30, none⟩).run Tryz.prog wx = .ok (.agg (jbV x)) wx) := Lib.hid ⟨fun wx hb => (HBX0.out.below hb HBX0.out.lt).cell 7, fun wx hb => by
          have := (hlwX.box.below hb hlwX.box.lt).cell 7
          rw [← HCA.out]; exact this, fun wx hb => jb_load (hjb.below hb hbb)⟩
        have HML : Hid (M.length + 1 ≤ maxLen ∧ (M.length + 1) * 256 ≤ 140737488355328) := Lib.hid (by
          rw [HMM.out, HLEN.out]
          have := HCN.out.2
          unfold maxLen; omega)
        clear hM hX0 hbX hlwX hjb hbb d0 fd0 d1 fd1 d2 fd2 d3 fd3 d4 fd4 d5 fd5 d6 fd6 d7 fd7
        go_upto_region 23 with fail
        refine wp_region_inv (I := fun listed a wx => ∃ v : Nat → Value, a = ⟨#[.agg #[.int .i64 c.g.cap, .int .i64 c.g.q, .int .i64 c.g.ar, .int .i64 c.g.ag, .int .u64 ↑c.g.sd, .int .i64 c.g.t, .int .i64 c.g.tau, .slice c.a c.n c.c], .int .u8 ↑wh, .int .u8 ↑y, .pointer (some ⟨w.heap.size, 0, none⟩), undef, undef, .bool false, .pointer (some ⟨w3.heap.size, 0, none⟩), .int .i64 ↑k, .int .i64 16, undef, undef, undef, undef, undef, .agg #[.int .i64 c.g.cap, .int .i64 c.g.q, .int .i64 c.g.ar, .int .i64 c.g.ag, .int .u64 ↑c.g.sd, .int .i64 c.g.t, .int .i64 c.g.tau, .slice c.a c.n c.c], .bool true, .bool false, .bool false, .agg #[.int .i64 c.g.cap, .int .i64 c.g.q, .int .i64 c.g.ar, .int .i64 c.g.ag, .int .u64 ↑c.g.sd, .int .i64 c.g.t, .int .i64 c.g.tau, .slice c.a c.n c.c], .int .i64 0, .bool false, .bool false, .bool false, .pointer (some ⟨w.heap.size, 7, none⟩), .slice (some ⟨b, off, none⟩) c.n c.c, .int .i64 ↑c.n, .bool false, .bool false, undef, .agg #[.int .i64 c.g.cap, .int .i64 c.g.q, .int .i64 c.g.ar, .int .i64 c.g.ag, .int .u64 ↑c.g.sd, .int .i64 c.g.t, .int .i64 c.g.tau, .slice (some ⟨b, off, none⟩) c.n c.c], .slice (some ⟨w3.heap.size + 1, 0, none⟩) 0 0, .pointer (some ⟨w.heap.size, 7, none⟩), .slice (some ⟨b, off, none⟩) c.n c.c, .slice (some ⟨g, 0, none⟩) c.n cap, .pointer (some ⟨w3.heap.size, 7, none⟩), .int .u8 ↑y, .int .i64 (wrap64 ↑y), .pointer (some ⟨w.heap.size, 7, none⟩), .slice (some ⟨b, off, none⟩) c.n c.c, .int .i64 ↑c.n, .int .i64 ↑k, .int .u8 ↑wh, .int .u8 4, undef, undef, undef, undef, undef, undef, undef, undef, undef, undef, undef, undef, undef, undef, .bool false, .bool false, undef, undef, .bool false, .bool false, undef, undef, .bool false, .bool false, undef, undef, undef, .bool false, .bool false, undef, undef, undef, undef, undef, .bool true, .bool true, .pointer (some ⟨w.heap.size, 7, none⟩), .slice (some ⟨b, off, none⟩) c.n c.c, .int .i64 ↑c.n, .bool false, undef, v 0, v 1, v 2, v 3, v 4, v 5, v 6, v 7, v 8, v 9, undef, undef, undef, undef, undef, undef, undef, undef, undef, undef, undef, undef, undef, undef, undef, undef, undef, undef, undef, undef, undef, undef, undef, undef, undef, undef, undef, undef, undef, undef, undef, undef, undef, undef, undef, undef, undef, undef, undef, undef, undef, undef, undef, undef, undef, undef, undef, undef, undef, undef], []⟩ ∧ InvA w3 X0 w.heap.size b off g cap c k M x l listed v wx) (by kernel_rfl) ?_ ?_ ?_
        · refine ⟨fun _ => undef, rfl, ⟨fun i hi => ?_, fun _ hi => ?_, fun hi => ?_, fun _ => HX0.out, fun hi => ?_, fun hi => ?_, fun hi => ?_⟩⟩
          all_goals
            exfalso
            rw [Array.getElem?_replicate] at hi
            split at hi <;> simp at hi
        · rintro listed a wx i o hsz ho hli ha ⟨v, rfl, hI⟩
          have HV := Lib.hid hI
          have HSZ2 := Lib.hid (show listed.size = 11 from hsz)
          have hi : i < 11 := (List.getElem?_eq_some_iff.1 ho).1
          clear hI hsz
          obtain rfl | rfl | rfl | rfl | rfl | rfl | rfl | rfl | rfl | rfl | rfl : i = 0 ∨ i = 1 ∨ i = 2 ∨ i = 3 ∨ i = 4 ∨ i = 5 ∨ i = 6 ∨ i = 7 ∨ i = 8 ∨ i = 9 ∨ i = 10 := by omega
          · -- operation 0
            cases ho
            refine wpOp_step rfl (fun K hK => ?_)
            go_simp
            exact hK _ _ ⟨updC v 0 _, rfl, HV.out.step HSZ2.out (by decide) hli (fun j hj => by simp [depA] at hj) rfl⟩
          · -- operation 1
            cases ho
            have h0 := HV.out.all 0 (dep_listed ha 0 (by kernel_rfl))
            replace h0 : v 0 = _ := h0
            have hb2 := HV.out.two HSZ2.out (by decide) hli
            have d7 : wx.cell? ⟨w3.heap.size, 7, none⟩ = some (.slice (some ⟨g, 0, none⟩) M.length cap) := HCE.out.1 wx hb2
            clear hb2
            refine wpOp_step rfl (fun K hK => ?_)
            go_simp
            exact hK _ _ ⟨updC v 1 _, by simp [updC, h0], HV.out.step HSZ2.out (by decide) hli (fun j hj => by simp only [depA, List.mem_cons, List.not_mem_nil, or_false] at hj; subst hj; exact dep_listed ha _ (by kernel_rfl)) rfl⟩
          · -- operation 2
            cases ho
            refine wpOp_step rfl (fun K hK => ?_)
            go_simp
            exact hK _ _ ⟨updC v 2 _, rfl, HV.out.step HSZ2.out (by decide) hli (fun j hj => by simp [depA] at hj) rfl⟩
          · -- operation 3
            cases ho
            have h2 := HV.out.all 2 (dep_listed ha 2 (by kernel_rfl))
            replace h2 : v 2 = _ := h2
            have hb2 := HV.out.two HSZ2.out (by decide) hli
            have c7 : wx.cell? ⟨w.heap.size, 7, none⟩ = some (.slice (some ⟨b, off, none⟩) c.n c.c) := HCE.out.2.1 wx hb2
            clear hb2
            refine wpOp_step rfl (fun K hK => ?_)
            go_simp
            exact hK _ _ ⟨updC v 3 _, by simp [updC, h2], HV.out.step HSZ2.out (by decide) hli (fun j hj => by simp only [depA, List.mem_cons, List.not_mem_nil, or_false] at hj; subst hj; exact dep_listed ha _ (by kernel_rfl)) rfl⟩
          · -- operation 4
            cases ho
            refine wpOp_step rfl (fun K hK => ?_)
            go_simp
            exact hK _ _ ⟨updC v 4 _, rfl, HV.out.step HSZ2.out (by decide) hli (fun j hj => by simp [depA] at hj) rfl⟩
          · -- operation 5
            cases ho
            have h3 := HV.out.all 3 (dep_listed ha 3 (by kernel_rfl))
            replace h3 : v 3 = _ := h3
            have h4 := HV.out.all 4 (dep_listed ha 4 (by kernel_rfl))
            replace h4 : v 4 = _ := h4
            refine wpOp_step rfl (fun K hK => ?_)
            go_simp
            exact hK _ _ ⟨updC v 5 _, by simp [updC, h3, h4], HV.out.step HSZ2.out (by decide) hli (fun j hj => by simp only [depA, List.mem_cons, List.not_mem_nil, or_false] at hj; rcases hj with rfl | rfl <;> exact dep_listed ha _ (by kernel_rfl)) rfl⟩
          · -- operation 6
            cases ho
            have h5 := HV.out.all 5 (dep_listed ha 5 (by kernel_rfl))
            replace h5 : v 5 = _ := h5
            have hld := HCE.out.2.2 wx (HV.out.two HSZ2.out (by decide) hli)
            refine wpOp_step rfl (fun K hK => ?_)
            refine wp_load_by _ _ rfl b (off + k * 30) (.agg (jbV x)) h5 hld ?_
            exact hK _ _ ⟨updC v 6 _, rfl, HV.out.step HSZ2.out (by decide) hli (fun j hj => by simp only [depA, List.mem_cons, List.not_mem_nil, or_false] at hj; subst hj; exact dep_listed ha _ (by kernel_rfl)) rfl⟩
          · -- operation 7
            cases ho
            have h6 := HV.out.all 6 (dep_listed ha 6 (by kernel_rfl))
            replace h6 : v 6 = .agg #[.string x.nm, .int .i64 x.p.k, .int .u64 x.p.x.s, .int .u64 x.p.x.mi, .int .u64 x.p.x.h, .int .u64 x.p.x.d, .int .u64 x.p.x.mo, .int .u64 x.p.x.w, .bool x.p.x.ad, .bool x.p.x.aw, .int .i64 x.p.z, .int .i64 x.p.e.s, .int .i64 x.p.e.p, .int .i64 x.p.e.c, .slice x.p.a x.p.n x.p.c, .int .i64 x.y.cap, .int .i64 x.y.pri, .int .i64 x.y.spl, .int .i64 x.y.ddl, .int .i64 x.y.mis, .int .i64 x.y.keep, .int .i64 x.y.t, .int .i64 x.y.tau, .int .i64 x.y.f, .int .i64 x.y.o, .int .i64 x.y.r, .int .i64 x.y.m, .int .i64 x.y.b, .int .i64 x.y.c, .int .i64 x.y.j] := h6
            have hwx := HV.out.w0 hli
            subst hwx
            have HS7 := Lib.hid (HV.out.step7 HSZ2.out hli (fun j hj => by simp only [depA, List.mem_cons, List.not_mem_nil, or_false] at hj; subst hj; exact dep_listed ha _ (by kernel_rfl)))
            rw [show jbV x = #[.string x.nm, .int .i64 x.p.k, .int .u64 x.p.x.s, .int .u64 x.p.x.mi, .int .u64 x.p.x.h, .int .u64 x.p.x.d, .int .u64 x.p.x.mo, .int .u64 x.p.x.w, .bool x.p.x.ad, .bool x.p.x.aw, .int .i64 x.p.z, .int .i64 x.p.e.s, .int .i64 x.p.e.p, .int .i64 x.p.e.c, .slice x.p.a x.p.n x.p.c, .int .i64 x.y.cap, .int .i64 x.y.pri, .int .i64 x.y.spl, .int .i64 x.y.ddl, .int .i64 x.y.mis, .int .i64 x.y.keep, .int .i64 x.y.t, .int .i64 x.y.tau, .int .i64 x.y.f, .int .i64 x.y.o, .int .i64 x.y.r, .int .i64 x.y.m, .int .i64 x.y.b, .int .i64 x.y.c, .int .i64 x.y.j] from rfl] at HS7
            refine wpOp_step rfl (fun K hK => ?_)
            go_simp
            exact hK _ _ ⟨updC v 7 _, by simp [updC, h6], HS7.out⟩
          · -- operation 8
            cases ho
            have h1 := HV.out.all 1 (dep_listed ha 1 (by kernel_rfl))
            replace h1 : v 1 = _ := h1
            have h7 := HV.out.all 7 (dep_listed ha 7 (by kernel_rfl))
            replace h7 : v 7 = _ := h7
            have hd7 : listed[7]? = some true := dep_listed ha 7 (by kernel_rfl)
            have hwx := HV.out.w7 hd7 hli
            have hdep := HV.out.ord (dep_listed ha 1 (by kernel_rfl)) hd7
            subst hwx
            refine wpOp_step rfl (fun K hK => ?_)
            refine wp_append_own _ _ _ 27 rfl (w3.heap.size + 1) 60 i0 (.agg zJ) 30 256 Tryz.underlying27 hi0 hz0 hz1 hz2 rfl (by decide) (.slice (some ⟨g, 0, none⟩) M.length cap) M.length (cellsJ M) h1 (own_alloc HOW.out _) ⟨X0.heap.size, 0, none⟩ 1 1 (jbV x).toList h7 rfl (row_new (Blk.new X0 60 (jbV x))) (fun u hu => cellsJ_one [(x, l)] u (by simpa [cellsJ] using hu)) HML.out.1 HML.out.2 HWS2.out ?_
            intro v' w' hown hgrow _
            have hown2 : OwnsC (w3.heap.size + 1) v' (M ++ [(x, l)]) w' := by
              unfold OwnsC
              rw [List.length_append, cellsJ_append]
              simpa [cellsJ] using hown
            obtain ⟨a', cap', e1, e2, e3⟩ := hown2.shape
            obtain ⟨g', rfl⟩ := e3 (by simp)
            have hlen1 : (M ++ [(x, l)]).length = M.length + 1 := by simp
            rw [hlen1] at e1
            rw [e1] at hown2
            have hba : Below X0.heap.size X0 (X0.alloc (.cells (jbV x) 60)) := (Below.refl _ _).alloc (Nat.le_refl _) _
            have hbw : Below w3.heap.size w3 w' := ((HB30.out.trans (hba.mono HB30.out.size))).grown hgrow (by simp; have := HWS.out; omega) (fun q hq => by
              have : g = q := by simpa [Value.ownBlock] using hq
              subst this
              have := OwnsC.gge HOW.out
              omega)
            have hbxx : Blk w' w3.heap.size 29 (cfV ⟨c.g, some ⟨g, 0, none⟩, M.length, cap⟩) := blk_app HBX0.out (Nat.lt_succ_self _) HOW.out hgrow
            exact hK _ _ ⟨updC v 8 v', rfl, HV.out.step8 HSZ2.out hdep hli e1 hown2 hbxx hbw⟩
          · -- operation 9
            cases ho
            refine wpOp_step rfl (fun K hK => ?_)
            go_simp
            exact hK _ _ ⟨updC v 9 _, rfl, HV.out.step HSZ2.out (by decide) hli (fun j hj => by simp [depA] at hj) rfl⟩
          · -- operation 10
            cases ho
            have h9 := HV.out.all 9 (dep_listed ha 9 (by kernel_rfl))
            replace h9 : v 9 = _ := h9
            have hdep : ∀ j, j < 10 → listed[j]? = some true := fun j hj => by
              obtain rfl | rfl | rfl | rfl | rfl | rfl | rfl | rfl | rfl | rfl : j = 0 ∨ j = 1 ∨ j = 2 ∨ j = 3 ∨ j = 4 ∨ j = 5 ∨ j = 6 ∨ j = 7 ∨ j = 8 ∨ j = 9 := by omega
              all_goals exact dep_listed ha _ (by kernel_rfl)
            obtain ⟨g', cap', h8, ho8, hbx8, hb8⟩ := HV.out.w8 (hdep 8 (by decide)) hli
            have d7 : wx.cell? ⟨w3.heap.size, 7, none⟩ = some (.slice (some ⟨g, 0, none⟩) M.length cap) := hbx8.cell 7
            have f7 : wx.frozen? ⟨w3.heap.size, 7, none⟩ = false := hbx8.frozen 7
            have HS10 := Lib.hid (HV.out.step10 hdep hli ho8 hbx8 hb8)
            clear ho8 hbx8 hb8
            refine wpOp_step rfl (fun K hK => ?_)
            go_simp
            exact hK _ _ ⟨v, by simp [h8, h9], HS10.out⟩
        · rintro listed a wx hsz hr ⟨v, rfl, hI⟩
          obtain ⟨g', cap', hF⟩ := hI.fin (all_listedC hsz (by kernel_rfl) hr 10 (by decide))
          have HF := Lib.hid hF
          clear hI hr hsz hF
          have HJ : Hid (JnF w w3 c L (.int .i64 6) wx) := Lib.hid (by
            have h1 := flaw4y HOK.out HKL.out (by rw [HLEN.out]; exact H64.out) HLK.out
            have h2 := (SamePl.refl L).snocy HKL.out HLK.out
            have h3 := HF.out
            rw [HMM.out] at h3
            exact jn_of HI.out h1 rfl h2 h3.b3 h3.bx h3.own.row)
          go_wp2_with fail
          go_meet
          exact HJ.out
      · have g0 : W6.cell? ⟨g, k * 30 + 1, none⟩ = some (.int .i64 x.p.k) := by
          exact ((HRW.out.own.row k HKL.out 1 (by decide)).1).trans (congrArg (fun z : Jb × List (Int × Int) => (jbV z.1)[1]?) HLK.out)
        have fg0 : W6.frozen? ⟨g, k * 30 + 1, none⟩ = false := (HRW.out.own.row k HKL.out 1 (by decide)).2
        have HJ : Hid (JnF w w3 c L (.int .i64 16) (W6.setCell ⟨g, k * 30 + 1, none⟩ (.int .i64 9))) := Lib.hid (jn_job (j := 1) HI.out HRW.out HKL.out (flaw5 HOK.out HKL.out) ⟨rfl, rfl, rfl, rfl⟩ (by decide) (fun i hi => by
          obtain rfl | rfl | rfl | rfl | rfl | rfl | rfl | rfl | rfl | rfl | rfl | rfl | rfl | rfl | rfl | rfl | rfl | rfl | rfl | rfl | rfl | rfl | rfl | rfl | rfl | rfl | rfl | rfl | rfl | rfl : i = 0 ∨ i = 1 ∨ i = 2 ∨ i = 3 ∨ i = 4 ∨ i = 5 ∨ i = 6 ∨ i = 7 ∨ i = 8 ∨ i = 9 ∨ i = 10 ∨ i = 11 ∨ i = 12 ∨ i = 13 ∨ i = 14 ∨ i = 15 ∨ i = 16 ∨ i = 17 ∨ i = 18 ∨ i = 19 ∨ i = 20 ∨ i = 21 ∨ i = 22 ∨ i = 23 ∨ i = 24 ∨ i = 25 ∨ i = 26 ∨ i = 27 ∨ i = 28 ∨ i = 29 := by omega
          all_goals rfl))
        go_wp2_with fail
        go_meet
        exact HJ.out
      · have g0 : W6.cell? ⟨g, k * 30 + 15, none⟩ = some (.int .i64 x.y.cap) := by
          exact ((HRW.out.own.row k HKL.out 15 (by decide)).1).trans (congrArg (fun z : Jb × List (Int × Int) => (jbV z.1)[15]?) HLK.out)
        have fg0 : W6.frozen? ⟨g, k * 30 + 15, none⟩ = false := (HRW.out.own.row k HKL.out 15 (by decide)).2
        have HJ : Hid (JnF w w3 c L (.int .i64 16) (W6.setCell ⟨g, k * 30 + 15, none⟩ (.int .i64 0))) := Lib.hid (jn_job (j := 15) HI.out HRW.out HKL.out (flaw6 HOK.out HKL.out) ⟨rfl, rfl, rfl, rfl⟩ (by decide) (fun i hi => by
          obtain rfl | rfl | rfl | rfl | rfl | rfl | rfl | rfl | rfl | rfl | rfl | rfl | rfl | rfl | rfl | rfl | rfl | rfl | rfl | rfl | rfl | rfl | rfl | rfl | rfl | rfl | rfl | rfl | rfl | rfl : i = 0 ∨ i = 1 ∨ i = 2 ∨ i = 3 ∨ i = 4 ∨ i = 5 ∨ i = 6 ∨ i = 7 ∨ i = 8 ∨ i = 9 ∨ i = 10 ∨ i = 11 ∨ i = 12 ∨ i = 13 ∨ i = 14 ∨ i = 15 ∨ i = 16 ∨ i = 17 ∨ i = 18 ∨ i = 19 ∨ i = 20 ∨ i = 21 ∨ i = 22 ∨ i = 23 ∨ i = 24 ∨ i = 25 ∨ i = 26 ∨ i = 27 ∨ i = 28 ∨ i = 29 := by omega
          all_goals rfl))
        go_wp2_with fail
        go_meet
        exact HJ.out
      · go_wp2_with fail
        go_loopw [48] (fun _ wr => ∃ j g cap, c.n + j ≤ 65 ∧ RwF w3 g cap c (L ++ List.replicate j (x, l)) wr) (fun _ wr => 65 - lenAt w3.heap.size wr)
        case atStart => exact ⟨0, g, cap, by have := HCN.out.2; omega, by simpa using HRW.out⟩
        case round =>
          clear d0 fd0 d1 fd1 d2 fd2 d3 fd3 d4 fd4 d5 fd5 d6 fd6 d7 fd7 HRW HRW0
          obtain ⟨j, g2, cap2, hj, hR⟩ := hrel
          obtain ⟨ln, hln⟩ : ∃ ln, (L ++ List.replicate j (x, l)).length = ln := ⟨_, rfl⟩
          have hlj : ln = c.n + j := by rw [← hln]; simp [HLEN.out]
          have d7 : wr.cell? ⟨w3.heap.size, 7, none⟩ = some (.slice (some ⟨g2, 0, none⟩) ln cap2) := by rw [← hln]; exact hR.bx.cell 7
          have c7 : wr.cell? ⟨w.heap.size, 7, none⟩ = some (.slice (some ⟨b, off, none⟩) c.n c.c) := HC7.out _ hR.b3
          have HLJ := Lib.hid hlj
          rcases Nat.lt_or_ge 64 ln with hlt | hge
          · have p1 : decide (ln ≤ 64) = false := decide_eq_false (by omega)
            have p2 : decide ((ln : Int) ≤ 64) = false := decide_eq_false (by omega)
            have HJ : Hid (JnF w w3 c L (.int .i64 12) wr) := Lib.hid (by
              have h65 : (L ++ List.replicate j (x, l)).length = 65 := by omega
              refine jn_of HI.out (flaw7 HOK.out h65) rfl (fun i hi => ?_) hR.b3 hR.bx hR.own.row
              rcases Nat.lt_or_ge i L.length with h1 | h1
              · exact ⟨i, h1, by rw [List.getElem_append_left h1]; exact ⟨rfl, rfl, rfl, rfl⟩⟩
              · refine ⟨k, HKL.out, ?_⟩
                rw [List.getElem_append_right h1, List.getElem_replicate]
                exact ⟨(congrArg (fun z : Jb × List (Int × Int) => z.1.p.x) HLK.out).symm, (congrArg (fun z : Jb × List (Int × Int) => z.1.p.a) HLK.out).symm, (congrArg (fun z : Jb × List (Int × Int) => z.1.p.n) HLK.out).symm, (congrArg (fun z : Jb × List (Int × Int) => z.2) HLK.out).symm⟩)
            clear hj hR hln hlj hlt
            go_wp2_with fail
            go_meet
            exact HJ.out
          have p1 : decide (ln ≤ 64) = true := decide_eq_true hge
          have p2 : decide ((ln : Int) ≤ 64) = true := decide_eq_true (by omega)
          have HJ65 : Hid (c.n + j ≤ 64) := Lib.hid (by omega)
          clear hj hlj
          obtain ⟨M, hM⟩ : ∃ M, M = L ++ List.replicate j (x, l) := ⟨_, rfl⟩
          have HMM := Lib.hid hM
          have HRW2 : Hid (RwF w3 g2 cap2 c M wr) := Lib.hid (by rw [hM]; exact hR)
          obtain ⟨X0, hX0⟩ : ∃ X0, wr.drew = X0 := ⟨_, rfl⟩
          have hbX : Below wr.heap.size wr X0 := by rw [← hX0]; exact below_drewN (Below.refl _ _) 1
          have HX0 := Lib.hid hX0
          have HB30 := Lib.hid (HRW2.out.b3.trans (hbX.mono HRW2.out.b3.size))
          have HWS := Lib.hid (Nat.lt_of_lt_of_le HRW2.out.bx.lt hbX.size)
          have HWS2 : Hid (w3.heap.size + 1 ≤ (X0.alloc (.cells (jbV x) 60)).heap.size) := Lib.hid (by rw [World.size_alloc]; have := HWS.out; omega)
          have HOW : Hid (X0.ownsRow (w3.heap.size + 1) 60 30 (.slice (some ⟨g2, 0, none⟩) M.length cap2) M.length (cellsJ M)) := Lib.hid (OwnsC.below HRW2.out.own hbX)
          have HBX0 := Lib.hid (HRW2.out.bx.below hbX HRW2.out.bx.lt)
          have hlwX := HI.out.next HB30.out
          have hjb := EqA.job ⟨hlwX.arg.in_.n, hlwX.arg.in_.at_, hlwX.arg.p9⟩ HCA.out HKN.out HXK.out
          have hbb : b < X0.heap.size := World.block_lt_of_cell? X0 _ hjb.name
          have HCE : Hid ((∀ wx, Below X0.heap.size X0 wx → wx.cell? ⟨w3.heap.size, 7, none⟩ = some (.slice (some ⟨g2, 0, none⟩) M.length cap2)) ∧ (∀ wx, Below X0.heap.size X0 wx → wx.cell? ⟨w.heap.size, 7, none⟩ = some (.slice (some ⟨b, off, none⟩) c.n c.c)) ∧ ∀ wx, Below X0.heap.size X0 wx → (loadVar 60 ⟨b, off + k * 30, none⟩).run Tryz.prog wx = .ok (.agg (jbV x)) wx) := Lib.hid ⟨fun wx hb => (HBX0.out.below hb HBX0.out.lt).cell 7, fun wx hb => by
            have := (hlwX.box.below hb hlwX.box.lt).cell 7
            rw [← HCA.out]; exact this, fun wx hb => jb_load (hjb.below hb hbb)⟩
          have HML : Hid (M.length + 1 ≤ maxLen ∧ (M.length + 1) * 256 ≤ 140737488355328) := Lib.hid (by
            rw [HMM.out, hln]
            unfold maxLen; omega)
          have HR1 := Lib.hid hR
          have HLN1 := Lib.hid hln
          have HMLN : Hid (M.length = ln) := Lib.hid (by rw [HMM.out, hln])
          clear hM hX0 hbX hlwX hjb hbb hR hln
          go_upto_region 9 with fail
          refine wp_region_inv (I := fun listed a wx => ∃ v : Nat → Value, a = ⟨#[.agg #[.int .i64 c.g.cap, .int .i64 c.g.q, .int .i64 c.g.ar, .int .i64 c.g.ag, .int .u64 ↑c.g.sd, .int .i64 c.g.t, .int .i64 c.g.tau, .slice c.a c.n c.c], .int .u8 ↑wh, .int .u8 ↑y, .pointer (some ⟨w.heap.size, 0, none⟩), undef, undef, .bool false, .pointer (some ⟨w3.heap.size, 0, none⟩), .int .i64 ↑k, .int .i64 16, undef, undef, undef, undef, undef, .agg #[.int .i64 c.g.cap, .int .i64 c.g.q, .int .i64 c.g.ar, .int .i64 c.g.ag, .int .u64 ↑c.g.sd, .int .i64 c.g.t, .int .i64 c.g.tau, .slice c.a c.n c.c], .bool true, .bool false, .bool false, .agg #[.int .i64 c.g.cap, .int .i64 c.g.q, .int .i64 c.g.ar, .int .i64 c.g.ag, .int .u64 ↑c.g.sd, .int .i64 c.g.t, .int .i64 c.g.tau, .slice c.a c.n c.c], .int .i64 0, .bool false, .bool false, .bool false, .pointer (some ⟨w.heap.size, 7, none⟩), .slice (some ⟨b, off, none⟩) c.n c.c, .int .i64 ↑c.n, .bool false, .bool false, undef, .agg #[.int .i64 c.g.cap, .int .i64 c.g.q, .int .i64 c.g.ar, .int .i64 c.g.ag, .int .u64 ↑c.g.sd, .int .i64 c.g.t, .int .i64 c.g.tau, .slice (some ⟨b, off, none⟩) c.n c.c], .slice (some ⟨w3.heap.size + 1, 0, none⟩) 0 0, .pointer (some ⟨w.heap.size, 7, none⟩), .slice (some ⟨b, off, none⟩) c.n c.c, .slice (some ⟨g, 0, none⟩) c.n cap, .pointer (some ⟨w3.heap.size, 7, none⟩), .int .u8 ↑y, .int .i64 (wrap64 ↑y), .pointer (some ⟨w.heap.size, 7, none⟩), .slice (some ⟨b, off, none⟩) c.n c.c, .int .i64 ↑c.n, .int .i64 ↑k, .int .u8 ↑wh, .int .u8 7, .pointer (some ⟨w3.heap.size, 7, none⟩), .slice (some ⟨g2, 0, none⟩) ln cap2, .int .i64 ↑ln, .bool true, v 0, v 1, v 2, v 3, v 4, v 5, v 6, v 7, v 8, v 9, .bool false, .bool false, undef, undef, .bool false, .bool false, undef, undef, .bool false, .bool false, undef, undef, undef, .bool false, .bool false, undef, undef, undef, undef, undef, .bool false, .bool false, undef, undef, undef, undef, undef, undef, undef, undef, undef, undef, undef, undef, undef, undef, undef, .bool false, .bool false, undef, undef, undef, undef, undef, undef, .bool false, .bool false, undef, undef, undef, undef, undef, undef, undef, undef, undef, undef, undef, undef, undef, undef, undef, undef, undef, undef, undef, undef, undef, undef, undef, undef, undef, undef, undef, undef, undef, undef, undef, undef, undef, undef, undef, undef, undef, undef, undef, undef], []⟩ ∧ InvA w3 X0 w.heap.size b off g2 cap2 c k M x l listed v wx) (by kernel_rfl) ?_ ?_ ?_
          · refine ⟨fun i => match i with | 0 => u48 | 1 => u49 | 2 => u50 | 3 => u51 | 4 => u52 | 5 => u53 | 6 => u54 | 7 => u55 | 8 => u56 | 9 => u57 | _ => undef, rfl, ⟨fun i hi => ?_, fun _ hi => ?_, fun hi => ?_, fun _ => HX0.out, fun hi => ?_, fun hi => ?_, fun hi => ?_⟩⟩
            all_goals
              exfalso
              rw [Array.getElem?_replicate] at hi
              split at hi <;> simp at hi
          · rintro listed a wx i o hsz ho hli ha ⟨v, rfl, hI⟩
            have HV := Lib.hid hI
            have HSZ2 := Lib.hid (show listed.size = 11 from hsz)
            have hi : i < 11 := (List.getElem?_eq_some_iff.1 ho).1
            clear hI hsz
            obtain rfl | rfl | rfl | rfl | rfl | rfl | rfl | rfl | rfl | rfl | rfl : i = 0 ∨ i = 1 ∨ i = 2 ∨ i = 3 ∨ i = 4 ∨ i = 5 ∨ i = 6 ∨ i = 7 ∨ i = 8 ∨ i = 9 ∨ i = 10 := by omega
            · -- operation 0
              cases ho
              refine wpOp_step rfl (fun K hK => ?_)
              go_simp
              exact hK _ _ ⟨updC v 0 _, rfl, HV.out.step HSZ2.out (by decide) hli (fun j hj => by simp [depA] at hj) rfl⟩
            · -- operation 1
              cases ho
              have h0 := HV.out.all 0 (dep_listed ha 0 (by kernel_rfl))
              replace h0 : v 0 = _ := h0
              have hb2 := HV.out.two HSZ2.out (by decide) hli
              have d7 : wx.cell? ⟨w3.heap.size, 7, none⟩ = some (.slice (some ⟨g2, 0, none⟩) M.length cap2) := HCE.out.1 wx hb2
              clear hb2
              refine wpOp_step rfl (fun K hK => ?_)
              go_simp
              exact hK _ _ ⟨updC v 1 _, by simp [updC, h0], HV.out.step HSZ2.out (by decide) hli (fun j hj => by simp only [depA, List.mem_cons, List.not_mem_nil, or_false] at hj; subst hj; exact dep_listed ha _ (by kernel_rfl)) rfl⟩
            · -- operation 2
              cases ho
              refine wpOp_step rfl (fun K hK => ?_)
              go_simp
              exact hK _ _ ⟨updC v 2 _, rfl, HV.out.step HSZ2.out (by decide) hli (fun j hj => by simp [depA] at hj) rfl⟩
            · -- operation 3
              cases ho
              have h2 := HV.out.all 2 (dep_listed ha 2 (by kernel_rfl))
              replace h2 : v 2 = _ := h2
              have hb2 := HV.out.two HSZ2.out (by decide) hli
              have c7 : wx.cell? ⟨w.heap.size, 7, none⟩ = some (.slice (some ⟨b, off, none⟩) c.n c.c) := HCE.out.2.1 wx hb2
              clear hb2
              refine wpOp_step rfl (fun K hK => ?_)
              go_simp
              exact hK _ _ ⟨updC v 3 _, by simp [updC, h2], HV.out.step HSZ2.out (by decide) hli (fun j hj => by simp only [depA, List.mem_cons, List.not_mem_nil, or_false] at hj; subst hj; exact dep_listed ha _ (by kernel_rfl)) rfl⟩
            · -- operation 4
              cases ho
              refine wpOp_step rfl (fun K hK => ?_)
              go_simp
              exact hK _ _ ⟨updC v 4 _, rfl, HV.out.step HSZ2.out (by decide) hli (fun j hj => by simp [depA] at hj) rfl⟩
            · -- operation 5
              cases ho
              have h3 := HV.out.all 3 (dep_listed ha 3 (by kernel_rfl))
              replace h3 : v 3 = _ := h3
              have h4 := HV.out.all 4 (dep_listed ha 4 (by kernel_rfl))
              replace h4 : v 4 = _ := h4
              refine wpOp_step rfl (fun K hK => ?_)
              go_simp
              exact hK _ _ ⟨updC v 5 _, by simp [updC, h3, h4], HV.out.step HSZ2.out (by decide) hli (fun j hj => by simp only [depA, List.mem_cons, List.not_mem_nil, or_false] at hj; rcases hj with rfl | rfl <;> exact dep_listed ha _ (by kernel_rfl)) rfl⟩
            · -- operation 6
              cases ho
              have h5 := HV.out.all 5 (dep_listed ha 5 (by kernel_rfl))
              replace h5 : v 5 = _ := h5
              have hld := HCE.out.2.2 wx (HV.out.two HSZ2.out (by decide) hli)
              refine wpOp_step rfl (fun K hK => ?_)
              refine wp_load_by _ _ rfl b (off + k * 30) (.agg (jbV x)) h5 hld ?_
              exact hK _ _ ⟨updC v 6 _, rfl, HV.out.step HSZ2.out (by decide) hli (fun j hj => by simp only [depA, List.mem_cons, List.not_mem_nil, or_false] at hj; subst hj; exact dep_listed ha _ (by kernel_rfl)) rfl⟩
            · -- operation 7
              cases ho
              have h6 := HV.out.all 6 (dep_listed ha 6 (by kernel_rfl))
              replace h6 : v 6 = .agg #[.string x.nm, .int .i64 x.p.k, .int .u64 x.p.x.s, .int .u64 x.p.x.mi, .int .u64 x.p.x.h, .int .u64 x.p.x.d, .int .u64 x.p.x.mo, .int .u64 x.p.x.w, .bool x.p.x.ad, .bool x.p.x.aw, .int .i64 x.p.z, .int .i64 x.p.e.s, .int .i64 x.p.e.p, .int .i64 x.p.e.c, .slice x.p.a x.p.n x.p.c, .int .i64 x.y.cap, .int .i64 x.y.pri, .int .i64 x.y.spl, .int .i64 x.y.ddl, .int .i64 x.y.mis, .int .i64 x.y.keep, .int .i64 x.y.t, .int .i64 x.y.tau, .int .i64 x.y.f, .int .i64 x.y.o, .int .i64 x.y.r, .int .i64 x.y.m, .int .i64 x.y.b, .int .i64 x.y.c, .int .i64 x.y.j] := h6
              have hwx := HV.out.w0 hli
              subst hwx
              have HS7 := Lib.hid (HV.out.step7 HSZ2.out hli (fun j hj => by simp only [depA, List.mem_cons, List.not_mem_nil, or_false] at hj; subst hj; exact dep_listed ha _ (by kernel_rfl)))
              rw [show jbV x = #[.string x.nm, .int .i64 x.p.k, .int .u64 x.p.x.s, .int .u64 x.p.x.mi, .int .u64 x.p.x.h, .int .u64 x.p.x.d, .int .u64 x.p.x.mo, .int .u64 x.p.x.w, .bool x.p.x.ad, .bool x.p.x.aw, .int .i64 x.p.z, .int .i64 x.p.e.s, .int .i64 x.p.e.p, .int .i64 x.p.e.c, .slice x.p.a x.p.n x.p.c, .int .i64 x.y.cap, .int .i64 x.y.pri, .int .i64 x.y.spl, .int .i64 x.y.ddl, .int .i64 x.y.mis, .int .i64 x.y.keep, .int .i64 x.y.t, .int .i64 x.y.tau, .int .i64 x.y.f, .int .i64 x.y.o, .int .i64 x.y.r, .int .i64 x.y.m, .int .i64 x.y.b, .int .i64 x.y.c, .int .i64 x.y.j] from rfl] at HS7
              refine wpOp_step rfl (fun K hK => ?_)
              go_simp
              exact hK _ _ ⟨updC v 7 _, by simp [updC, h6], HS7.out⟩
            · -- operation 8
              cases ho
              have h1 := HV.out.all 1 (dep_listed ha 1 (by kernel_rfl))
              replace h1 : v 1 = _ := h1
              have h7 := HV.out.all 7 (dep_listed ha 7 (by kernel_rfl))
              replace h7 : v 7 = _ := h7
              have hd7 : listed[7]? = some true := dep_listed ha 7 (by kernel_rfl)
              have hwx := HV.out.w7 hd7 hli
              have hdep := HV.out.ord (dep_listed ha 1 (by kernel_rfl)) hd7
              subst hwx
              refine wpOp_step rfl (fun K hK => ?_)
              refine wp_append_own _ _ _ 27 rfl (w3.heap.size + 1) 60 i0 (.agg zJ) 30 256 Tryz.underlying27 hi0 hz0 hz1 hz2 rfl (by decide) (.slice (some ⟨g2, 0, none⟩) M.length cap2) M.length (cellsJ M) h1 (own_alloc HOW.out _) ⟨X0.heap.size, 0, none⟩ 1 1 (jbV x).toList h7 rfl (row_new (Blk.new X0 60 (jbV x))) (fun u hu => cellsJ_one [(x, l)] u (by simpa [cellsJ] using hu)) HML.out.1 HML.out.2 HWS2.out ?_
              intro v' w' hown hgrow _
              have hown2 : OwnsC (w3.heap.size + 1) v' (M ++ [(x, l)]) w' := by
                unfold OwnsC
                rw [List.length_append, cellsJ_append]
                simpa [cellsJ] using hown
              obtain ⟨a', cap', e1, e2, e3⟩ := hown2.shape
              obtain ⟨g', rfl⟩ := e3 (by simp)
              have hlen1 : (M ++ [(x, l)]).length = M.length + 1 := by simp
              rw [hlen1] at e1
              rw [e1] at hown2
              have hba : Below X0.heap.size X0 (X0.alloc (.cells (jbV x) 60)) := (Below.refl _ _).alloc (Nat.le_refl _) _
              have hbw : Below w3.heap.size w3 w' := ((HB30.out.trans (hba.mono HB30.out.size))).grown hgrow (by simp; have := HWS.out; omega) (fun q hq => by
                have : g2 = q := by simpa [Value.ownBlock] using hq
                subst this
                have := OwnsC.gge HOW.out
                omega)
              have hbxx : Blk w' w3.heap.size 29 (cfV ⟨c.g, some ⟨g2, 0, none⟩, M.length, cap2⟩) := blk_app HBX0.out (Nat.lt_succ_self _) HOW.out hgrow
              exact hK _ _ ⟨updC v 8 v', rfl, HV.out.step8 HSZ2.out hdep hli e1 hown2 hbxx hbw⟩
            · -- operation 9
              cases ho
              refine wpOp_step rfl (fun K hK => ?_)
              go_simp
              exact hK _ _ ⟨updC v 9 _, rfl, HV.out.step HSZ2.out (by decide) hli (fun j hj => by simp [depA] at hj) rfl⟩
            · -- operation 10
              cases ho
              have h9 := HV.out.all 9 (dep_listed ha 9 (by kernel_rfl))
              replace h9 : v 9 = _ := h9
              have hdep : ∀ j, j < 10 → listed[j]? = some true := fun j hj => by
                obtain rfl | rfl | rfl | rfl | rfl | rfl | rfl | rfl | rfl | rfl : j = 0 ∨ j = 1 ∨ j = 2 ∨ j = 3 ∨ j = 4 ∨ j = 5 ∨ j = 6 ∨ j = 7 ∨ j = 8 ∨ j = 9 := by omega
                all_goals exact dep_listed ha _ (by kernel_rfl)
              obtain ⟨g', cap', h8, ho8, hbx8, hb8⟩ := HV.out.w8 (hdep 8 (by decide)) hli
              have d7 : wx.cell? ⟨w3.heap.size, 7, none⟩ = some (.slice (some ⟨g2, 0, none⟩) M.length cap2) := hbx8.cell 7
              have f7 : wx.frozen? ⟨w3.heap.size, 7, none⟩ = false := hbx8.frozen 7
              have HS10 := Lib.hid (HV.out.step10 hdep hli ho8 hbx8 hb8)
              clear ho8 hbx8 hb8
              refine wpOp_step rfl (fun K hK => ?_)
              go_simp
              exact hK _ _ ⟨v, by simp [h8, h9], HS10.out⟩
          · rintro listed a wx hsz hr ⟨v, rfl, hI⟩
            obtain ⟨g', cap', hF⟩ := hI.fin (all_listedC hsz (by kernel_rfl) hr 10 (by decide))
            have HF := Lib.hid hF
            clear hI hr hsz hF
            have HR2 : Hid (RwF w3 g' cap' c (L ++ List.replicate (j + 1) (x, l)) wx) := Lib.hid (by
              have h3 := HF.out
              rw [HMM.out, List.append_assoc, ← List.replicate_succ'] at h3
              exact h3)
            go_wp2_with fail
            refine ⟨⟨j + 1, g', cap', by have := HJ65.out; omega, HR2.out⟩, ?_⟩
            rw [HR2.out.lenAt, HR1.out.lenAt]
            simp only [List.length_append, List.length_replicate]
            have := HJ65.out
            have := HLEN.out
            omega

    case rest =>
      obtain ⟨g', M, a, ml, cap', E, hf, rfl, hx, ha, hl⟩ := hcut
      have HFL := Lib.hid hf
      have HX9 := Lib.hid hx
      have HI9 := Lib.hid hl
      have HA9 := Lib.hid ha
      have CD := Lib.hid (fun W (h : CArg W ⟨g', a, ml, cap'⟩ M) => by
        have h2 := cdue_ok ⟨g', a, ml, cap'⟩ M 0 W h
        rw [show cdE (⟨g', a, ml, cap'⟩ : Cf).g M 0 = E from by rw [(cd_bad (by rw [hf.err]; exact hf.ne) 0).1, hf.err], cfV_eq] at h2
        exact h2)
      have CC := Lib.hid (fun W (h : CArg W ⟨g', a, ml, cap'⟩ M) => by
        have h2 := ccaps_ok ⟨g', a, ml, cap'⟩ M W h
        rw [show cfE (⟨g', a, ml, cap'⟩ : Cf).g M = E from hf.err, cfV_eq] at h2
        exact h2)
      have CH := Lib.hid (fun W (h : CArg W ⟨g', a, ml, cap'⟩ M) => by
        have h2 := ccheck_ok ⟨g', a, ml, cap'⟩ M W h
        rw [show cfE (⟨g', a, ml, cap'⟩ : Cf).g M = E from hf.err, cfV_eq] at h2
        exact h2)
      have CE := Lib.hid (fun W (h : CArg W c L) (h2 : CArg W ⟨g', a, ml, cap'⟩ M) => by
        have h3 := cequal_ok c ⟨g', a, ml, cap'⟩ L M W ⟨h.in_.n, h.in_.at_, h.p9⟩ ⟨h2.in_.n, h2.in_.at_, h2.p9⟩ h.n9 h2.n9
        rw [show cfEq c ⟨g', a, ml, cap'⟩ L M = false from hf.neq, cfV_eq, cfV_eq] at h3
        exact h3)
      have q9 : (E == E) = true := by simp
      clear hf hx hl ha
      have e0 : wc.cell? ⟨w3.heap.size, 0, none⟩ = some (Value.int .i64 g'.cap) := HX9.out.cell 0
      have e1 : wc.cell? ⟨w3.heap.size, 1, none⟩ = some (Value.int .i64 g'.q) := HX9.out.cell 1
      have e2 : wc.cell? ⟨w3.heap.size, 2, none⟩ = some (Value.int .i64 g'.ar) := HX9.out.cell 2
      have e3 : wc.cell? ⟨w3.heap.size, 3, none⟩ = some (Value.int .i64 g'.ag) := HX9.out.cell 3
      have e4 : wc.cell? ⟨w3.heap.size, 4, none⟩ = some (Value.int .u64 g'.sd) := HX9.out.cell 4
      have e5 : wc.cell? ⟨w3.heap.size, 5, none⟩ = some (Value.int .i64 g'.t) := HX9.out.cell 5
      have e6 : wc.cell? ⟨w3.heap.size, 6, none⟩ = some (Value.int .i64 g'.tau) := HX9.out.cell 6
      have e7 : wc.cell? ⟨w3.heap.size, 7, none⟩ = some (Value.slice a ml cap') := HX9.out.cell 7
      go_wp2_with fail
      refine (CD.out _ HA9.out).mono ?_
      rintro e w10 ⟨v, rfl, _, hb⟩
      have HI10 := Lib.hid (HI9.out.next hb)
      have HA10 := Lib.hid (HA9.out.below hb)
      have HX10 := Lib.hid (HX9.out.below hb HX9.out.lt)
      clear hb e0 e1 e2 e3 e4 e5 e6 e7
      have e0 : w10.cell? ⟨w3.heap.size, 0, none⟩ = some (Value.int .i64 g'.cap) := HX10.out.cell 0
      have e1 : w10.cell? ⟨w3.heap.size, 1, none⟩ = some (Value.int .i64 g'.q) := HX10.out.cell 1
      have e2 : w10.cell? ⟨w3.heap.size, 2, none⟩ = some (Value.int .i64 g'.ar) := HX10.out.cell 2
      have e3 : w10.cell? ⟨w3.heap.size, 3, none⟩ = some (Value.int .i64 g'.ag) := HX10.out.cell 3
      have e4 : w10.cell? ⟨w3.heap.size, 4, none⟩ = some (Value.int .u64 g'.sd) := HX10.out.cell 4
      have e5 : w10.cell? ⟨w3.heap.size, 5, none⟩ = some (Value.int .i64 g'.t) := HX10.out.cell 5
      have e6 : w10.cell? ⟨w3.heap.size, 6, none⟩ = some (Value.int .i64 g'.tau) := HX10.out.cell 6
      have e7 : w10.cell? ⟨w3.heap.size, 7, none⟩ = some (Value.slice a ml cap') := HX10.out.cell 7
      go_wp2_with fail
      refine (CC.out _ HA10.out).mono ?_
      rintro e w11 ⟨v2, rfl, _, hb⟩
      have HI11 := Lib.hid (HI10.out.next hb)
      have HA11 := Lib.hid (HA10.out.below hb)
      have HX11 := Lib.hid (HX10.out.below hb HX10.out.lt)
      clear hb e0 e1 e2 e3 e4 e5 e6 e7
      have e0 : w11.cell? ⟨w3.heap.size, 0, none⟩ = some (Value.int .i64 g'.cap) := HX11.out.cell 0
      have e1 : w11.cell? ⟨w3.heap.size, 1, none⟩ = some (Value.int .i64 g'.q) := HX11.out.cell 1
      have e2 : w11.cell? ⟨w3.heap.size, 2, none⟩ = some (Value.int .i64 g'.ar) := HX11.out.cell 2
      have e3 : w11.cell? ⟨w3.heap.size, 3, none⟩ = some (Value.int .i64 g'.ag) := HX11.out.cell 3
      have e4 : w11.cell? ⟨w3.heap.size, 4, none⟩ = some (Value.int .u64 g'.sd) := HX11.out.cell 4
      have e5 : w11.cell? ⟨w3.heap.size, 5, none⟩ = some (Value.int .i64 g'.t) := HX11.out.cell 5
      have e6 : w11.cell? ⟨w3.heap.size, 6, none⟩ = some (Value.int .i64 g'.tau) := HX11.out.cell 6
      have e7 : w11.cell? ⟨w3.heap.size, 7, none⟩ = some (Value.slice a ml cap') := HX11.out.cell 7
      go_wp2_with fail
      refine (CH.out _ HA11.out).mono ?_
      rintro e w12 ⟨rfl, hb⟩
      have HI12 := Lib.hid (HI11.out.next hb)
      have HA12 := Lib.hid (HA11.out.below hb)
      have HX12 := Lib.hid (HX11.out.below hb HX11.out.lt)
      clear hb e0 e1 e2 e3 e4 e5 e6 e7
      have e0 : w12.cell? ⟨w3.heap.size, 0, none⟩ = some (Value.int .i64 g'.cap) := HX12.out.cell 0
      have e1 : w12.cell? ⟨w3.heap.size, 1, none⟩ = some (Value.int .i64 g'.q) := HX12.out.cell 1
      have e2 : w12.cell? ⟨w3.heap.size, 2, none⟩ = some (Value.int .i64 g'.ar) := HX12.out.cell 2
      have e3 : w12.cell? ⟨w3.heap.size, 3, none⟩ = some (Value.int .i64 g'.ag) := HX12.out.cell 3
      have e4 : w12.cell? ⟨w3.heap.size, 4, none⟩ = some (Value.int .u64 g'.sd) := HX12.out.cell 4
      have e5 : w12.cell? ⟨w3.heap.size, 5, none⟩ = some (Value.int .i64 g'.t) := HX12.out.cell 5
      have e6 : w12.cell? ⟨w3.heap.size, 6, none⟩ = some (Value.int .i64 g'.tau) := HX12.out.cell 6
      have e7 : w12.cell? ⟨w3.heap.size, 7, none⟩ = some (Value.slice a ml cap') := HX12.out.cell 7
      obtain ⟨c0, c1, c2, c3, c4, c5, c6, c7⟩ := HI12.out.cells
      go_wp2_with fail
      refine (CE.out _ HI12.out.arg HA12.out).mono ?_
      rintro e w13 ⟨rfl, hb⟩
      have HI13 := Lib.hid (HI12.out.next hb)
      clear hb e0 e1 e2 e3 e4 e5 e6 e7 c0 c1 c2 c3 c4 c5 c6 c7
      go_wp2_with fail
      refine (CW.out _ HI13.out.below).mono ?_
      rintro e w99 ⟨rfl, hb⟩
      have HB99 := Lib.hid (HI13.out.below.trans (hb.mono HI13.out.below.size))
      clear hb
      go_wp2_with fail
      go_ret
      exact ⟨rfl, HB99.out⟩

end Go.Proofs.YtihadbkjfocdoaaGreatDoor.BW

