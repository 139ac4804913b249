/- Contract of slices.Clone of jobs. -/
import Derived.Test.YtihadbkjfocdoaaGreatDoorCEqual
import Derived.Lib.SliceRun
namespace Go.Proofs.YtihadbkjfocdoaaGreatDoor.BW
open Go.RowKit BM Go.Shelf MC RK
open BK hiding ret_bool ret_i64

/-- Jobs as cells. -/
def cellsJ (L : JL) : List Value := L.flatMap fun x => (jbV x.1).toList
theorem jbV_len (j : Jb) : (jbV j).toList.length = 30 := rfl
theorem cellsJ_len (L : JL) : (cellsJ L).length = L.length * 30 := by
  induction L with
  | nil => rfl
  | cons x L ih =>
    unfold cellsJ at ih ⊢
    rw [List.flatMap_cons, List.length_append, ih, jbV_len, List.length_cons, Nat.succ_mul, Nat.add_comm]
theorem cellsJ_get (L : JL) : ∀ (k i : Nat) (hk : k < L.length), i < 30 → (cellsJ L)[k * 30 + i]? = (jbV L[k].1)[i]? := by
  induction L with
  | nil => intro k i hk; cases hk
  | cons x L ih =>
    intro k i hk hi
    have e : cellsJ (x :: L) = (jbV x.1).toList ++ cellsJ L := rfl
    rw [e]
    cases k with
    | zero =>
      rw [List.getElem?_append_left (by rw [jbV_len]; omega), Nat.zero_mul, Nat.zero_add, Array.getElem?_toList]
      rfl
    | succ k =>
      rw [List.getElem?_append_right (by rw [jbV_len]; omega), jbV_len, show (k + 1) * 30 + i - 30 = k * 30 + i by omega]
      have hk' : k < L.length := Nat.lt_of_succ_lt_succ hk
      exact ih k i hk' hi
theorem cellsJ_at {L : JL} {b off : Nat} {w : World} {T : Option Addr} (h : JobsAt w T L) (hT : T = some ⟨b, off, none⟩) : ∀ (j : Nat) (u : Value), (cellsJ L)[j]? = some u → w.cell? ⟨b, off + j, none⟩ = some u := fun j u hj => by
  have hjl := (List.getElem?_eq_some_iff.1 hj).1
  rw [cellsJ_len] at hjl
  have hk : j / 30 < L.length := by omega
  obtain ⟨b', o', e, h1, _⟩ := h (j / 30) hk
  rw [hT] at e
  injection e with e
  injection e with e1 e2
  subst e1 e2
  have e : j / 30 * 30 + j % 30 = j := by omega
  have g1 := cellsJ_get L (j / 30) (j % 30) hk (Nat.mod_lt _ (by decide))
  have g2 := h1 (j % 30) (Nat.mod_lt _ (by decide))
  rw [e, hj] at g1
  rw [Nat.add_assoc, e] at g2
  rw [g2, ← g1]
theorem cellsJ_one (L : JL) : ∀ u ∈ cellsJ L, u.oneCell' = true := fun u hu => by
  unfold cellsJ at hu
  obtain ⟨x, _, hx⟩ := List.mem_flatMap.1 hu
  have : ((jbV x.1).toList.all (·.oneCell')) = true := by simp [jbV, Value.oneCell']
  exact List.all_eq_true.1 this u hx
theorem info_job : (Tryz.prog.info? 60).map (fun i => (i.zero, i.size, i.bytes)) = some (some (.agg zJ), 30, 256) := by kernel_rfl
/-- Jobs that a call owns. -/
def OwnsC (base : Nat) (v : Value) (L : JL) (W : World) : Prop := W.ownsRow base 60 30 v L.length (cellsJ L)
theorem OwnsC.shape {base : Nat} {v : Value} {L : JL} {W : World} (h : OwnsC base v L W) : ∃ a c, v = .slice a L.length c ∧ (∀ ad, a = some ad → ∃ g, ad = ⟨g, 0, none⟩ ∧ base ≤ g) ∧ (0 < L.length → ∃ g, a = some ⟨g, 0, none⟩) := by
  rcases h.2 with ⟨h1, h2⟩ | ⟨g, cap, cur, h1, h2, _⟩
  · exact ⟨none, 0, by rw [h1, h2], fun ad e => (by cases e), fun h => by omega⟩
  · exact ⟨some ⟨g, 0, none⟩, cap, h1, fun ad e => ⟨g, by injection e with e; exact e.symm, h2⟩, fun _ => ⟨g, rfl⟩⟩
theorem OwnsC.cell {base g n c : Nat} {L : JL} {W : World} (h : OwnsC base (.slice (some ⟨g, 0, none⟩) n c) L W) (k i : Nat) (hk : k < L.length) (hi : i < 30) : W.cell? ⟨g, k * 30 + i, none⟩ = (jbV L[k].1)[i]? := by
  rcases h.2 with ⟨h1, _⟩ | ⟨g', cap, cur, h1, h2, h3, h4, h5, h6, h7⟩
  · cases h1
  · injection h1 with h1 _ _
    injection h1 with h1
    injection h1 with h1 _ _
    subst h1
    rw [← cellsJ_get L k i hk hi, ← h7]
    rw [List.getElem?_take_of_lt (by omega)]
    unfold World.cell?
    rw [h3]
    simp
set_option maxHeartbeats 2000000 in
set_option maxRecDepth 8000 in
theorem cjclone_ok (L : JL) (a : Option Addr) (n c : Nat) (hn : L.length = n) (hn2 : n ≤ 200) (w : World) (h : JobsAt w a L) : Calls Tryz.prog 31 #[.slice a n c] w fun e w' => ∃ v, e = .returned v ∧ OwnsC w.heap.size v L w' ∧ Below w.heap.size w w' := by
  obtain ⟨i0, hi0, hz0, hz1, hz2⟩ := info_parts info_job
  have q22 : ∀ (w : World) (a : Option Addr) (n c n' c' : Nat), (binOp .eql 27 (.slice a n c) (.slice none n' c')).run Tryz.prog w = .ok (.bool a.isNone) w := fun w a n c n' c' => Lib.run_eql_slice_nil w _ _ a n c n' c' Tryz.underlying27
  cases a with
  | none =>
    obtain rfl : L = [] := by
      cases L with
      | nil => rfl
      | cons x l => obtain ⟨b, off, e, _⟩ := h 0 (by simp); cases e
    have HE : Hid (OwnsC w.heap.size (.slice none 0 0) [] w) := Lib.hid (World.ownsRow_nil _ _ _ _)
    clear h hn
    go_enter Tryz.func31, Tryz.ntmps31
    go_wp2_with fail
    go_ret
    exact ⟨_, rfl, HE.out, Below.refl _ _⟩
  | some ad =>
    have HN := Lib.hid hn
    have HSP : Hid (0 < n → ∃ b off, ad = ⟨b, off, none⟩ ∧ ∀ (j : Nat) (u : Value), (cellsJ L)[j]? = some u → w.cell? ⟨b, off + j, none⟩ = some u) := Lib.hid (fun h0 => by
      obtain ⟨b, off, e, _⟩ := h 0 (by omega)
      injection e with e
      subst e
      exact ⟨b, off, rfl, cellsJ_at h rfl⟩)
    clear h hn
    have k1 : n ≤ maxLen := by unfold maxLen; omega
    have k2 : n * 256 ≤ 140737488355328 := by omega
    go_enter Tryz.func31, Tryz.ntmps31
    go_wp2_with (at_builtin; refine wpList_append_own _ rfl _ _ 27 rfl w.heap.size 60 i0 (.agg zJ) 30 256 Tryz.underlying27 hi0 hz0 hz1 hz2 rfl (by decide) _ _ _ rfl (World.ownsRow_made w #[] 0 (Nat.le_refl _) (Nat.zero_le _) rfl) ad n c (cellsJ L) rfl ?qc1 ?qc2 ?qc3 ?qc4 ?qc5 ?qc6 ?_)
    case qc1 => rw [cellsJ_len, HN.out]
    case qc2 =>
      intro j u hj
      have hjl := (List.getElem?_eq_some_iff.1 hj).1
      rw [cellsJ_len, HN.out] at hjl
      obtain ⟨b, off, rfl, hc⟩ := HSP.out (by omega)
      rw [Addr.add_lit]
      exact Lib.cell?_alloc_some _ (hc j u hj)
    case qc3 => exact cellsJ_one L
    case qc4 => simpa using k1
    case qc5 => simpa using k2
    case qc6 => simp
    intro v' w1 hown hgrow hnil
    have HO : Hid (OwnsC w.heap.size v' L w1) := Lib.hid (by
      unfold OwnsC
      rw [HN.out]
      simpa using hown)
    have HB : Hid (Below w.heap.size w w1) := Lib.hid (((Below.refl _ w).alloc (Nat.le_refl _) _).grown hgrow (by simp) (by intro k hk; simp [Value.ownBlock] at hk; omega))
    clear hown hgrow hnil
    go_wp2_with fail
    go_ret
    exact ⟨v', rfl, HO.out, HB.out⟩
/-- A job with other memory for its plan's spans. -/
def Jb.withS (j : Jb) (a : Option Addr) (c : Nat) : Jb := ⟨j.nm, j.p.withS a c, j.y⟩
theorem size_setCells (b : Nat) : ∀ (vs : List Value) (o : Nat) (w : World), (w.setCells b o vs).heap.size = w.heap.size
  | [], _, _ => rfl
  | v :: r, o, w => by rw [World.setCells, size_setCells b r]; simp
theorem below_setCells {B b : Nat} {a : World} (hb : B ≤ b) : ∀ (vs : List Value) (o : Nat) (w : World), Below B a w → Below B a (w.setCells b o vs)
  | [], _, _, h => h
  | v :: r, o, _, h => below_setCells hb r (o + 1) _ (h.setCell hb v)
theorem OwnsS.farS {B g : Nat} {v : Value} {ys : List (Int × Int)} (hb : g < B) : ∀ (vs : List Value) (o : Nat) (W : World), OwnsS B v ys W → OwnsS B v ys (W.setCells g o vs)
  | [], _, _, h => h
  | u :: r, o, _, h => OwnsS.farS hb r (o + 1) _ (h.far hb u)
theorem Blk.farS {g b : Nat} {T : TypeId} {cs : Array Value} (hb : b ≠ g) : ∀ (vs : List Value) (o : Nat) (W : World), Blk W b T cs → Blk (W.setCells g o vs) b T cs
  | [], _, _, h => h
  | u :: r, o, _, h => Blk.farS hb r (o + 1) _ (h.far (by first | exact hb | exact fun e => hb e.symm) u)
/-- The cells of jobs in block g. -/
def RowC (W : World) (g : Nat) (L : JL) : Prop := ∀ i (h : i < L.length), ∀ j, j < 30 → W.cell? ⟨g, i * 30 + j, none⟩ = (jbV L[i].1)[j]? ∧ W.frozen? ⟨g, i * 30 + j, none⟩ = false
theorem RowC.lt {W : World} {g : Nat} {L : JL} (h : RowC W g L) (hL : 0 < L.length) : g < W.heap.size := by
  have : W.cell? ⟨g, 0 * 30 + 0, none⟩ = some (.string L[0].1.nm) := (h 0 hL 0 (by decide)).1
  exact World.block_lt_of_cell? W _ this
theorem RowC.below {W X : World} {g : Nat} {L : JL} (h : RowC W g L) (hb : Below W.heap.size W X) : RowC X g L := fun i hi j hj => by
  have hg := h.lt (by omega)
  exact ⟨(hb.cell (p := ⟨g, i * 30 + j, none⟩) hg).trans (h i hi j hj).1, by
    have := (h i hi j hj).2
    unfold World.frozen? at this ⊢
    rw [hb.block g hg]; exact this⟩
theorem RowC.store {W : World} {g : Nat} {L : JL} (h : RowC W g L) (k : Nat) (hk : k < L.length) (a : Option Addr) (c : Nat) :
    RowC (W.setCells g (k * 30 + 1) (plV (L[k].1.p.withS a c)).toList) g (L.set k (L[k].1.withS a c, L[k].2)) := fun i hi j hj => by
  have hi' : i < L.length := by simpa using hi
  refine ⟨?_, by rw [World.frozen?_setCells]; exact (h i hi' j hj).2⟩
  by_cases e : i = k
  · subst e
    rw [List.getElem_set_self]
    by_cases hj2 : 1 ≤ j ∧ j < 15
    · obtain ⟨m, rfl⟩ : ∃ m, j = 1 + m := ⟨j - 1, by omega⟩
      have hm : m < (plV (L[i].1.p.withS a c)).toList.length := show m < 14 by omega
      have := World.cell?_setCells_in g (plV (L[i].1.p.withS a c)).toList (i * 30 + 1) W (fun q hq => by
        have hq14 : q < 14 := hq
        rw [Nat.add_assoc, (h i hi' (1 + q) (by omega)).1, Array.getElem?_eq_getElem (show 1 + q < (jbV L[i].1).size from show 1 + q < 30 by omega)]; rfl) m hm
      rw [← Nat.add_assoc, this]
      have hm14 : m < 14 := hm
      obtain rfl | rfl | rfl | rfl | rfl | rfl | rfl | rfl | rfl | rfl | rfl | rfl | rfl | rfl : m = 0 ∨ m = 1 ∨ m = 2 ∨ m = 3 ∨ m = 4 ∨ m = 5 ∨ m = 6 ∨ m = 7 ∨ m = 8 ∨ m = 9 ∨ m = 10 ∨ m = 11 ∨ m = 12 ∨ m = 13 := by omega
      all_goals rfl
    · rw [World.cell?_setCells_out g _ _ _ _ (fun _ _ => by
        show i * 30 + j < i * 30 + 1 ∨ i * 30 + 1 + 14 ≤ i * 30 + j
        omega), (h i hi' j hj).1]
      obtain rfl | rfl | rfl | rfl | rfl | rfl | rfl | rfl | rfl | rfl | rfl | rfl | rfl | rfl | rfl | rfl : j = 0 ∨ j = 15 ∨ j = 16 ∨ j = 17 ∨ j = 18 ∨ j = 19 ∨ j = 20 ∨ j = 21 ∨ j = 22 ∨ j = 23 ∨ j = 24 ∨ j = 25 ∨ j = 26 ∨ j = 27 ∨ j = 28 ∨ j = 29 := by omega
      all_goals rfl
  · rw [List.getElem_set_ne (fun e' => e e'.symm), World.cell?_setCells_out g _ _ _ _ (fun _ _ => by
      show i * 30 + j < k * 30 + 1 ∨ k * 30 + 1 + 14 ≤ i * 30 + j
      omega)]
    exact (h i hi' j hj).1
theorem RowC.there {W : World} {g : Nat} {L : JL} (h : RowC W g L) (k : Nat) (hk : k < L.length) : W.there g (k * 30 + 1) 14 := fun j hj => by
  have := h k hk (1 + j) (by omega)
  rw [← Nat.add_assoc] at this
  refine ⟨?_, this.2⟩
  rw [this.1, Array.getElem?_eq_getElem (show 1 + j < (jbV L[k].1).size from show 1 + j < 30 by omega)]; rfl
theorem OwnsC.row {base g n c : Nat} {L : JL} {W : World} (h : OwnsC base (.slice (some ⟨g, 0, none⟩) n c) L W) : RowC W g L := fun i hi j hj => ⟨h.cell i j hi hj, by
  rcases h.2 with ⟨h1, _⟩ | ⟨g', cap, cur, h1, h2, h3, _⟩
  · cases h1
  · injection h1 with h1 _ _
    injection h1 with h1
    injection h1 with h1 _ _
    subst h1
    simp [World.frozen?, h3]⟩
/-- k jobs of the copy have their own spans. -/
structure CpB (w : World) (g cap : Nat) (c : Cf) (L : JL) (k : Nat) (L' : JL) (W : World) : Prop where
  box : Blk W w.heap.size 29 (cfV ⟨c.g, some ⟨g, 0, none⟩, c.n, cap⟩)
  zb : Blk W (w.heap.size + 1) 29 #[.int .i64 0, .int .i64 0, .int .i64 0, .int .i64 0, .int .u64 0, .int .i64 0, .int .i64 0, .slice none 0 0]
  ge : w.heap.size + 2 ≤ g
  len : L'.length = L.length
  row : RowC W g L'
  old : ∀ i, k ≤ i → L'[i]? = L[i]?
  new : ∀ i, i < k → ∀ x l, L[i]? = some (x, l) → ∃ a' c', L'[i]? = some (x.withS a' c', l) ∧ OwnsS (g + 1) (.slice a' x.p.n c') l W
  below : Below w.heap.size w W
theorem CpB.next {w : World} {g cap : Nat} {c : Cf} {L L' : JL} {k : Nat} {X Y : World} (h : CpB w g cap c L k L' X) (hb : Below X.heap.size X Y) : CpB w g cap c L k L' Y :=
  ⟨h.box.below hb h.box.lt, h.zb.below hb h.zb.lt, h.ge, h.len, h.row.below hb, h.old, fun i hi x l hx => by
    obtain ⟨a', c', h1, h2⟩ := h.new i hi x l hx
    exact ⟨a', c', h1, h2.below hb⟩, h.below.trans (hb.mono h.below.size)⟩
theorem CpB.store {w : World} {g cap : Nat} {c : Cf} {L L' : JL} {k : Nat} {X : World} (h : CpB w g cap c L k L' X) {x : Jb} {l : List (Int × Int)} (hx : L[k]? = some (x, l)) {a' : Option Addr} {c' : Nat} (ho : OwnsS (g + 1) (.slice a' x.p.n c') l X) :
    CpB w g cap c L (k + 1) (L'.set k (x.withS a' c', l)) (X.setCells g (k * 30 + 1) (plV (x.p.withS a' c')).toList) := by
  have hkL := (List.getElem?_eq_some_iff.1 hx).1
  have hk : k < L'.length := by rw [h.len]; exact hkL
  have hxk : L'[k] = (x, l) := by
    have := h.old k (Nat.le_refl _)
    rw [hx, List.getElem?_eq_getElem hk] at this
    injection this
  have hg := h.ge
  refine ⟨Blk.farS (by omega) _ _ _ h.box, Blk.farS (by omega) _ _ _ h.zb, h.ge, by simpa using h.len, ?_, fun i hi => ?_, fun i hi y m hy => ?_, below_setCells (by omega) _ _ _ h.below⟩
  · have := h.row.store k hk a' c'
    rw [hxk] at this
    exact this
  · rw [List.getElem?_set_ne (by omega)]; exact h.old i (by omega)
  · by_cases e : i = k
    · subst e
      rw [hx] at hy
      injection hy with hy
      injection hy with hy1 hy2
      subst hy1 hy2
      exact ⟨a', c', by rw [List.getElem?_set_self hk], ho.farS (by omega) _ _ _⟩
    · obtain ⟨a2, c2, h1, h2⟩ := h.new i (by omega) y m hy
      exact ⟨a2, c2, by rw [List.getElem?_set_ne (fun e' => e e'.symm)]; exact h1, h2.farS (by omega) _ _ _⟩
end Go.Proofs.YtihadbkjfocdoaaGreatDoor.BW
