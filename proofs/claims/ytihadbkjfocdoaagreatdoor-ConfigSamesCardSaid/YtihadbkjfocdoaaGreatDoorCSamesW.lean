/- Walk of ConfigSames. -/
import Derived.Test.YtihadbkjfocdoaaGreatDoorCRef
namespace Go.Proofs.YtihadbkjfocdoaaGreatDoor.BW
open Go.RowKit BM Go.Shelf MC RK
open BK hiding ret_bool ret_i64

theorem there_setCell {w : World} {b' o' n : Nat} (h : w.there b' o' n) (b o : Nat) (u : Value) : (w.setCell ⟨b, o, none⟩ u).there b' o' n := World.there_setCells h b o [u]
theorem heap_setCells_other {b i : Nat} (hi : i ≠ b) : ∀ (vs : List Value) (o : Nat) (w : World), (w.setCells b o vs).heap[i]? = w.heap[i]?
  | [], _, _ => rfl
  | v :: r, o, w => by rw [World.setCells, heap_setCells_other hi r]; exact Below.heap_setCell w _ v i (by simpa using hi)
/-- While the copy is overwritten: k of its jobs are; nothing else has turned. -/
structure WrE (lo : World) (hi g : Nat) (X : World) (L : JL) (k : Nat) (W : World) : Prop where
  below : Below lo.heap.size lo W
  size : W.heap.size = X.heap.size
  kept : ∀ b, hi ≤ b → W.heap[b]? = X.heap[b]?
  glo : 0 < L.length → lo.heap.size ≤ g ∧ g < hi
  row : W.there g 0 (L.length * 30)
  sl : ∀ i (h : i < L.length), k ≤ i → W.cell? ⟨g, i * 30 + 14, none⟩ = some (.slice L[i].1.p.a L[i].1.p.n L[i].1.p.c)
  sp : ∀ i (h : i < L.length), k ≤ i → ∀ m, m < L[i].1.p.n → ∃ b off, L[i].1.p.a = some ⟨b, off, none⟩ ∧ b ≠ g ∧ lo.heap.size ≤ b ∧ b < hi ∧ W.there b (off + m * 2) 2
theorem WrE.set {lo : World} {hi g : Nat} {X : World} {L : JL} {k : Nat} {W : World} (h : WrE lo hi g X L k W) {b : Nat} (h1 : lo.heap.size ≤ b) (h2 : b < hi) (h3 : b ≠ g) (o : Nat) (u : Value) : WrE lo hi g X L k (W.setCell ⟨b, o, none⟩ u) :=
  ⟨h.below.setCell h1 u, by rw [← h.size]; simp, fun i hib => (Below.heap_setCell W _ u i (by simp; omega)).trans (h.kept i hib), h.glo, there_setCell h.row _ _ _,
    fun i hiL hki => (World.cell?_setCell_other _ _ _ _ (by simp <;> omega)).trans (h.sl i hiL hki),
    fun i hiL hki m hm => by
      obtain ⟨b', off, e1, e2, e3, e4, e5⟩ := h.sp i hiL hki m hm
      exact ⟨b', off, e1, e2, e3, e4, there_setCell e5 _ _ _⟩⟩
theorem WrE.job {lo : World} {hi g : Nat} {X : World} {L : JL} {k : Nat} {W : World} (h : WrE lo hi g X L k W) (hk : k < L.length) (vs : List Value) (hv : vs.length = 30) : WrE lo hi g X L (k + 1) (W.setCells g (k * 30) vs) := by
  have hg := h.glo (by omega)
  refine ⟨below_setCells hg.1 _ _ _ h.below, by rw [size_setCells]; exact h.size, fun i hib => (heap_setCells_other (by omega) _ _ _).trans (h.kept i hib), h.glo, World.there_setCells h.row _ _ _, fun i hiL hki => ?_, fun i hiL hki m hm => ?_⟩
  · rw [World.cell?_setCells_out g _ _ _ _ (fun _ _ => by
      rw [hv]
      show i * 30 + 14 < k * 30 ∨ k * 30 + 30 ≤ i * 30 + 14
      omega)]
    exact h.sl i hiL (by omega)
  · obtain ⟨b', off, e1, e2, e3, e4, e5⟩ := h.sp i hiL (by omega) m hm
    exact ⟨b', off, e1, e2, e3, e4, World.there_setCells e5 _ _ _⟩
theorem WrE.thereJ {lo : World} {hi g : Nat} {X : World} {L : JL} {k : Nat} {W : World} (h : WrE lo hi g X L k W) (hk : k < L.length) : W.there g (k * 30) 30 := fun j hj => by
  have := h.row (k * 30 + j) (by omega)
  rwa [Nat.zero_add] at this
theorem CopyC.wrE {lo W6 X : World} {a : Option Addr} {L L' : JL} {g : Nat} (h : CopyC lo.heap.size W6 a L L') (hb0 : Below lo.heap.size lo X) (hb : Below W6.heap.size W6 X) (ha : 0 < L.length → a = some ⟨g, 0, none⟩) : WrE lo W6.heap.size g X L' 0 X := by
  have hlen := h.len
  have hrow : 0 < L.length → lo.heap.size ≤ g ∧ RowC W6 g L' ∧ ∀ (i : Nat) (x : Jb) (l : List (Int × Int)), L[i]? = some (x, l) → ∃ a' c', L'[i]? = some (x.withS a' c', l) ∧ OwnsS (g + 1) (.slice a' x.p.n c') l W6 := fun h0 => by
    obtain ⟨g', e, h1, h2, h3⟩ := h.at_ h0
    rw [ha h0] at e
    injection e with e
    injection e with e _ _
    subst e
    exact ⟨h1, h2, h3⟩
  refine ⟨hb0, rfl, fun _ _ => rfl, fun h0 => ?_, fun j hj => ?_, fun i hi _ => ?_, fun i hi _ m hm => ?_⟩
  · obtain ⟨h1, h2, _⟩ := hrow (by omega)
    exact ⟨h1, h2.lt h0⟩
  · obtain ⟨_, h2, _⟩ := hrow (by omega)
    have hk : j / 30 < L'.length := by omega
    have e : j / 30 * 30 + j % 30 = j := by omega
    have h5 := (h2.below hb) (j / 30) hk (j % 30) (Nat.mod_lt _ (by decide))
    rw [e] at h5
    rw [Nat.zero_add]
    refine ⟨?_, h5.2⟩
    rw [h5.1, Array.getElem?_eq_getElem (show j % 30 < (jbV L'[j / 30].1).size from Nat.mod_lt _ (by decide))]; rfl
  · obtain ⟨_, h2, _⟩ := hrow (by omega)
    exact ((h2.below hb) i hi 14 (by decide)).1
  · obtain ⟨h1, h2, h3⟩ := hrow (by omega)
    obtain ⟨a', c', h5, h6⟩ := h3 i L[i].1 L[i].2 (List.getElem?_eq_getElem (by omega))
    rw [List.getElem?_eq_getElem hi] at h5
    injection h5 with h5
    have ep : L'[i].1.p.a = a' := by rw [h5]; rfl
    have en : L'[i].1.p.n = L[i].1.p.n := by rw [h5]; rfl
    rw [en] at hm
    rw [ep]
    have h6' : W6.ownsRow (g + 1) 66 2 (.slice a' L[i].1.p.n c') L[i].2.length (cellsS L[i].2) := h6
    have hs6 := h6'.1
    rcases h6'.2 with ⟨e1, e2⟩ | ⟨b, cap, cur, e1, e2, e3, e4, e5, e6, e7⟩
    · injection e1 with _ e1 _
      omega
    · injection e1 with e1 en2 _
      subst e1
      have hbl := (Array.getElem?_eq_some_iff.1 e3).1
      refine ⟨b, 0, rfl, by omega, by omega, hbl, fun j hj => ?_⟩
      have h7 := (hb.block b hbl).trans e3
      have hj2 : 0 + m * 2 + j < cur.size := by omega
      refine ⟨?_, by simp [World.frozen?, h7]⟩
      have h8 := cell_of_row X b (0 + m * 2 + j) cur _ _ h7
      rw [h8, Array.getElem?_eq_getElem hj2]; rfl
theorem CopyR.kept {B : Nat} {W X : World} {a : Option Addr} {L L' : JL} (h : CopyR B W a L L') (hk : ∀ b, B ≤ b → b < W.heap.size → X.heap[b]? = W.heap[b]?) : CopyR B X a L L' :=
  ⟨h.len, fun h0 => by
    obtain ⟨g, h1, h2, h3, h4⟩ := h.at_ h0
    have hg := h3.lt (by rw [h.len]; exact h0)
    refine ⟨g, h1, h2, fun i hi j hj => ?_, fun i x l hx => ?_⟩
    · have := h3 i hi j hj
      refine ⟨(World.cell?_of_block (a := ⟨g, i * 30 + j, none⟩) (hk g h2 hg)).trans this.1, ?_⟩
      have h5 := this.2
      unfold World.frozen? at h5 ⊢
      rw [hk g h2 hg]; exact h5
    · obtain ⟨a', c', h5, h6⟩ := h4 i x l hx
      exact ⟨a', c', h5, h6.1, h6.2.imp id fun ⟨g, cap, cur, k1, k2, k3, k4⟩ => ⟨g, cap, cur, k1, k2, (hk g k2 (Array.getElem?_eq_some_iff.1 k3).1).trans k3, k4⟩⟩⟩
theorem CopyR.same {B : Nat} {W : World} {a : Option Addr} {L L' : JL} (h : CopyR B W a L L') : SameJ L L' := ⟨h.len, fun k hk hk' => by
  obtain ⟨g, _, _, _, h4⟩ := h.at_ (by omega)
  obtain ⟨a', c', h5, _⟩ := h4 k L[k].1 L[k].2 (List.getElem?_eq_getElem hk)
  rw [List.getElem?_eq_getElem hk'] at h5
  injection h5 with h5
  exact ⟨a', c', h5⟩⟩
theorem CopyR.eqa {B : Nat} {W V : World} {c : Cf} {a : Option Addr} {L L' : JL} (hA : CArg V c L) (h : CopyR B W a L L') : EqA W a c.n L' := by
  refine ⟨h.len.trans hA.in_.n, fun k hk' => ?_, fun k hk' => ?_⟩
  · have hk : k < L.length := by rw [← h.len]; exact hk'
    obtain ⟨g, h1, _, h3, h4⟩ := h.at_ (by omega)
    obtain ⟨a', c', h5, h6⟩ := h4 k L[k].1 L[k].2 (List.getElem?_eq_getElem hk)
    rw [List.getElem?_eq_getElem hk'] at h5
    injection h5 with h5
    obtain ⟨_, _, _, _, hp⟩ := hA.in_.at_ k hk
    refine ⟨g, 0, h1, fun i hi => by rw [Nat.zero_add]; exact (h3 k hk' i hi).1, ?_⟩
    rw [h5]
    obtain ⟨ad, cap, e, hs⟩ := h6.shape
    injection e with e1 _ _
    subst e1
    exact ⟨hp.x, hp.n, hs⟩
  · have hk : k < L.length := by rw [← h.len]; exact hk'
    obtain ⟨a', c', e⟩ := h.same.at_ k hk hk'
    rw [e]; exact hA.p9 k hk
/-- The law's two configurations in their boxes. -/
structure LwD (w : World) (c d : Cf) (L M : JL) (W : World) : Prop where
  bx : Blk W w.heap.size 29 (cfV c)
  bz : Blk W (w.heap.size + 1) 29 (cfV d)
  l : CArg W c L
  m : CArg W d M
  below : Below w.heap.size w W
theorem LwD.next {w : World} {c d : Cf} {L M : JL} {X Y : World} (h : LwD w c d L M X) (hb : Below X.heap.size X Y) : LwD w c d L M Y :=
  ⟨h.bx.below hb h.bx.lt, h.bz.below hb h.bz.lt, h.l.below hb, h.m.below hb, h.below.trans (hb.mono h.below.size)⟩
def dashJ : Array Value := #[.string ⟨#[45]⟩, .int .i64 0, .int .u64 0, .int .u64 0, .int .u64 0, .int .u64 0, .int .u64 0, .int .u64 0, .bool false, .bool false, .int .i64 0, .int .i64 0, .int .i64 0, .int .i64 0, .slice none 0 0, .int .i64 0, .int .i64 0, .int .i64 0, .int .i64 0, .int .i64 0, .int .i64 0, .int .i64 0, .int .i64 0, .int .i64 0, .int .i64 0, .int .i64 0, .int .i64 0, .int .i64 0, .int .i64 0, .int .i64 0]
theorem dashJ_one : dashJ.all (·.oneCell') = true := by simp [dashJ, Value.oneCell']
set_option maxRecDepth 8000 in
set_option maxHeartbeats 8000000 in
theorem lcsames_ok (c : Cf) (L : JL) (d : Cf) (M : JL) (s : ByteArray) (_hs : s.size ≤ maxLen) (w : World) (hp : CIn w c L ∧ c.n ≤ 9223372036854775807) (hp2 : CIn w d M ∧ d.n ≤ 9223372036854775807) (hT : SpTab w) (hTab : Tab w) : Calls Tryz.prog 5 #[.agg (cfV c), .agg (cfV d), .string s] w fun e w' => e = .returned (.bool true) ∧ Below w.heap.size w w' := by
  obtain ⟨hI, hn9⟩ := hp
  obtain ⟨hI2, hn92⟩ := hp2
  obtain ⟨W1, hW1⟩ : ∃ W1, W1 = (w.alloc (.cells (cfV c) 29)).alloc (.cells (cfV d) 29) := ⟨_, rfl⟩
  have hB : Below w.heap.size w W1 := by rw [hW1]; exact ((Below.refl _ w).alloc (Nat.le_refl _) _).alloc (by simp) _
  have hx : Blk W1 w.heap.size 29 (cfV c) := by rw [hW1]; exact (Blk.new w _ _).alloc _
  have hy : Blk W1 (w.heap.size + 1) 29 (cfV d) := by rw [hW1]; exact Blk.newAt (by simp)
  have HT := Lib.hid (show ∀ W, Below w.heap.size w W → SpTab W ∧ Tab W from fun W hW => ⟨hT.below hW, tab_below hTab hW (tab_lt hTab)⟩)
  have CF := Lib.hid (few_ok c L W1 (hI.below hB) hn9)
  have CF2 := Lib.hid (fun W (h : CIn W d M) => few_ok d M W h hn92)
  have HX := Lib.hid (And.intro hB (And.intro hx hy))
  have HIN := Lib.hid hI
  have HIN2 := Lib.hid hI2
  have CW := Lib.hid (fun W (hW : Below w.heap.size w W) => cwk_ok W (HT.out W hW).1 (HT.out W hW).2)
  have CFD := Lib.hid (fun W (h : CArg W c L) => cfind_ok c L s W h.in_.n h.n9 h.in_.at_)
  have RFD := Lib.hid (fun W (h : CArg W c L) => rfind_ok c L s W h.in_.n h.n9 h.in_.at_)
  have CCP := Lib.hid (fun W (h : CArg W c L) => ccopy_ok c L W h.eqa h.n9)
  have RCP := Lib.hid (fun W (h : CArg W c L) => rccopy_ok c L W h.eqa h.n9)
  have CEQ := Lib.hid (fun W (h : CArg W c L) (h2 : CArg W d M) => cequal_ok c d L M W h.eqa h2.eqa h.n9 h2.n9)
  have REQ := Lib.hid (fun W (h : CArg W c L) (h2 : CArg W d M) => rcequal_ok c d L M W h.eqa h2.eqa h.n9 h2.n9)
  generalize cfEq c d L M = be at *
  generalize fdI L s = fi at *
  generalize fdB L s = fb at *
  have HW := Lib.hid hW1
  have c0' := hx
  rw [cfV_eq] at c0'
  have c0 := (show W1.cell? ⟨w.heap.size, 0, none⟩ = some (.int .i64 c.g.cap) from c0'.cell 0)
  have c1 := (show W1.cell? ⟨w.heap.size, 1, none⟩ = some (.int .i64 c.g.q) from c0'.cell 1)
  have c2 := (show W1.cell? ⟨w.heap.size, 2, none⟩ = some (.int .i64 c.g.ar) from c0'.cell 2)
  have c3 := (show W1.cell? ⟨w.heap.size, 3, none⟩ = some (.int .i64 c.g.ag) from c0'.cell 3)
  have c4 := (show W1.cell? ⟨w.heap.size, 4, none⟩ = some (.int .u64 c.g.sd) from c0'.cell 4)
  have c5 := (show W1.cell? ⟨w.heap.size, 5, none⟩ = some (.int .i64 c.g.t) from c0'.cell 5)
  have c6 := (show W1.cell? ⟨w.heap.size, 6, none⟩ = some (.int .i64 c.g.tau) from c0'.cell 6)
  have c7 := (show W1.cell? ⟨w.heap.size, 7, none⟩ = some (.slice c.a c.n c.c) from c0'.cell 7)
  rw [cfV_eq, cfV_eq] at hW1
  rw [cfV_eq] at CF CFD RFD CCP RCP
  rw [cfV_eq, cfV_eq] at CEQ REQ ⊢
  clear hB hx hy hI hI2 hT hTab c0'
  by_cases hs : 100 < s.size
  all_goals
    have qs : decide (100 < s.size) = decide (100 < s.size) := rfl
    clear qs
  · have s1 : decide (100 < s.size) = true := decide_eq_true hs
    have s2 : decide ((100 : Int) < s.size) = true := decide_eq_true (by omega)
    clear hs CFD RFD CCP RCP CEQ REQ
    go_enter Tryz.func5, Tryz.ntmps5
    go_upto_region 1 with fail
    rw [← hW1]
    clear hW1
    go_wp2_with fail
    refine (CF.out).mono ?_
    rintro e w2 (⟨rfl, hb⟩ | ⟨rfl, hf, hb⟩)
    · have HB2 := Lib.hid (HX.out.1.trans (hb.mono HX.out.1.size))
      clear hb c0 c1 c2 c3 c4 c5 c6 c7
      go_wp2_with fail
      refine (CW.out _ HB2.out).mono ?_
      rintro e w99 ⟨rfl, hb⟩
      have HB99 := Lib.hid (HB2.out.trans (hb.mono HB2.out.size))
      clear hb
      go_wp2_with fail
      go_ret
      exact ⟨rfl, HB99.out⟩
    · have HB2 := Lib.hid (HX.out.1.trans (hb.mono HX.out.1.size))
      have hy2 := HX.out.2.2.below hb HX.out.2.2.lt
      rw [cfV_eq] at hy2
      have d0 := (show w2.cell? ⟨(w.heap.size + 1), 0, none⟩ = some (.int .i64 d.g.cap) from hy2.cell 0)
      have d1 := (show w2.cell? ⟨(w.heap.size + 1), 1, none⟩ = some (.int .i64 d.g.q) from hy2.cell 1)
      have d2 := (show w2.cell? ⟨(w.heap.size + 1), 2, none⟩ = some (.int .i64 d.g.ar) from hy2.cell 2)
      have d3 := (show w2.cell? ⟨(w.heap.size + 1), 3, none⟩ = some (.int .i64 d.g.ag) from hy2.cell 3)
      have d4 := (show w2.cell? ⟨(w.heap.size + 1), 4, none⟩ = some (.int .u64 d.g.sd) from hy2.cell 4)
      have d5 := (show w2.cell? ⟨(w.heap.size + 1), 5, none⟩ = some (.int .i64 d.g.t) from hy2.cell 5)
      have d6 := (show w2.cell? ⟨(w.heap.size + 1), 6, none⟩ = some (.int .i64 d.g.tau) from hy2.cell 6)
      have d7 := (show w2.cell? ⟨(w.heap.size + 1), 7, none⟩ = some (.slice d.a d.n d.c) from hy2.cell 7)
      rw [cfV_eq] at CF2
      clear hb hf hy2 c0 c1 c2 c3 c4 c5 c6 c7
      go_wp2_with fail
      refine (CF2.out _ (HIN2.out.below HB2.out)).mono ?_
      rintro e w3 hh
      have hb : Below w2.heap.size w2 w3 := by rcases hh with ⟨_, hb⟩ | ⟨_, _, hb⟩ <;> exact hb
      have HB3 := Lib.hid (HB2.out.trans (hb.mono HB2.out.size))
      rcases hh with ⟨rfl, _⟩ | ⟨rfl, _, _⟩
      all_goals
        clear hb d0 d1 d2 d3 d4 d5 d6 d7
        go_wp2_with fail
        refine (CW.out _ HB3.out).mono ?_
        rintro e w99 ⟨rfl, hb⟩
        have HB99 := Lib.hid (HB3.out.trans (hb.mono HB3.out.size))
        clear hb
        go_wp2_with fail
        go_ret
        exact ⟨rfl, HB99.out⟩
  · have s1 : decide (100 < s.size) = false := decide_eq_false hs
    have s2 : decide ((100 : Int) < s.size) = false := decide_eq_false (by omega)
    clear hs
    go_enter Tryz.func5, Tryz.ntmps5
    go_upto_region 1 with fail
    rw [← hW1]
    clear hW1
    go_wp2_with fail
    refine (CF.out).mono ?_
    rintro e w2 (⟨rfl, hb⟩ | ⟨rfl, hf, hb⟩)
    · have HB2 := Lib.hid (HX.out.1.trans (hb.mono HX.out.1.size))
      clear hb c0 c1 c2 c3 c4 c5 c6 c7
      go_wp2_with fail
      refine (CW.out _ HB2.out).mono ?_
      rintro e w99 ⟨rfl, hb⟩
      have HB99 := Lib.hid (HB2.out.trans (hb.mono HB2.out.size))
      clear hb
      go_wp2_with fail
      go_ret
      exact ⟨rfl, HB99.out⟩
    have HFEW := Lib.hid hf
    have HB2 := Lib.hid (HX.out.1.trans (hb.mono HX.out.1.size))
    have hx2 := HX.out.2.1.below hb HX.out.2.1.lt
    have hy2 := HX.out.2.2.below hb HX.out.2.2.lt
    have HXY := Lib.hid (And.intro hx2 hy2)
    rw [cfV_eq] at hy2
    have d0 := (show w2.cell? ⟨(w.heap.size + 1), 0, none⟩ = some (.int .i64 d.g.cap) from hy2.cell 0)
    have d1 := (show w2.cell? ⟨(w.heap.size + 1), 1, none⟩ = some (.int .i64 d.g.q) from hy2.cell 1)
    have d2 := (show w2.cell? ⟨(w.heap.size + 1), 2, none⟩ = some (.int .i64 d.g.ar) from hy2.cell 2)
    have d3 := (show w2.cell? ⟨(w.heap.size + 1), 3, none⟩ = some (.int .i64 d.g.ag) from hy2.cell 3)
    have d4 := (show w2.cell? ⟨(w.heap.size + 1), 4, none⟩ = some (.int .u64 d.g.sd) from hy2.cell 4)
    have d5 := (show w2.cell? ⟨(w.heap.size + 1), 5, none⟩ = some (.int .i64 d.g.t) from hy2.cell 5)
    have d6 := (show w2.cell? ⟨(w.heap.size + 1), 6, none⟩ = some (.int .i64 d.g.tau) from hy2.cell 6)
    have d7 := (show w2.cell? ⟨(w.heap.size + 1), 7, none⟩ = some (.slice d.a d.n d.c) from hy2.cell 7)
    rw [cfV_eq] at CF2
    clear hb hf hx2 hy2 c0 c1 c2 c3 c4 c5 c6 c7
    go_wp2_with fail
    refine (CF2.out _ (HIN2.out.below HB2.out)).mono ?_
    rintro e w3 (⟨rfl, hb⟩ | ⟨rfl, hf, hb⟩)
    · have HB3 := Lib.hid (HB2.out.trans (hb.mono HB2.out.size))
      clear hb d0 d1 d2 d3 d4 d5 d6 d7
      go_wp2_with fail
      refine (CW.out _ HB3.out).mono ?_
      rintro e w99 ⟨rfl, hb⟩
      have HB99 := Lib.hid (HB3.out.trans (hb.mono HB3.out.size))
      clear hb
      go_wp2_with fail
      go_ret
      exact ⟨rfl, HB99.out⟩
    have hb3 := HB2.out.trans (hb.mono HB2.out.size)
    have HI := Lib.hid (show LwD w c d L M w3 from ⟨HXY.out.1.below hb HXY.out.1.lt, HXY.out.2.below hb HXY.out.2.lt, HFEW.out.arg (HIN.out.below hb3) (HT.out _ hb3).1 (HT.out _ hb3).2, hf.arg (HIN2.out.below hb3) (HT.out _ hb3).1 (HT.out _ hb3).2, hb3⟩)
    clear hb hf hb3 d0 d1 d2 d3 d4 d5 d6 d7
    have c0 := (show w3.cell? ⟨w.heap.size, 0, none⟩ = some (.int .i64 c.g.cap) from HI.out.bx.cell 0)
    have c1 := (show w3.cell? ⟨w.heap.size, 1, none⟩ = some (.int .i64 c.g.q) from HI.out.bx.cell 1)
    have c2 := (show w3.cell? ⟨w.heap.size, 2, none⟩ = some (.int .i64 c.g.ar) from HI.out.bx.cell 2)
    have c3 := (show w3.cell? ⟨w.heap.size, 3, none⟩ = some (.int .i64 c.g.ag) from HI.out.bx.cell 3)
    have c4 := (show w3.cell? ⟨w.heap.size, 4, none⟩ = some (.int .u64 c.g.sd) from HI.out.bx.cell 4)
    have c5 := (show w3.cell? ⟨w.heap.size, 5, none⟩ = some (.int .i64 c.g.t) from HI.out.bx.cell 5)
    have c6 := (show w3.cell? ⟨w.heap.size, 6, none⟩ = some (.int .i64 c.g.tau) from HI.out.bx.cell 6)
    have c7 := (show w3.cell? ⟨w.heap.size, 7, none⟩ = some (.slice c.a c.n c.c) from HI.out.bx.cell 7)
    go_wp2_with fail
    refine (CFD.out _ HI.out.l).mono ?_
    rintro e w4 ⟨rfl, hb⟩
    have HI := Lib.hid (HI.out.next hb)
    clear hb c0 c1 c2 c3 c4 c5 c6 c7
    have c0 := (show w4.cell? ⟨w.heap.size, 0, none⟩ = some (.int .i64 c.g.cap) from HI.out.bx.cell 0)
    have c1 := (show w4.cell? ⟨w.heap.size, 1, none⟩ = some (.int .i64 c.g.q) from HI.out.bx.cell 1)
    have c2 := (show w4.cell? ⟨w.heap.size, 2, none⟩ = some (.int .i64 c.g.ar) from HI.out.bx.cell 2)
    have c3 := (show w4.cell? ⟨w.heap.size, 3, none⟩ = some (.int .i64 c.g.ag) from HI.out.bx.cell 3)
    have c4 := (show w4.cell? ⟨w.heap.size, 4, none⟩ = some (.int .u64 c.g.sd) from HI.out.bx.cell 4)
    have c5 := (show w4.cell? ⟨w.heap.size, 5, none⟩ = some (.int .i64 c.g.t) from HI.out.bx.cell 5)
    have c6 := (show w4.cell? ⟨w.heap.size, 6, none⟩ = some (.int .i64 c.g.tau) from HI.out.bx.cell 6)
    have c7 := (show w4.cell? ⟨w.heap.size, 7, none⟩ = some (.slice c.a c.n c.c) from HI.out.bx.cell 7)
    go_wp2_with fail
    refine (RFD.out _ HI.out.l).mono ?_
    rintro e w5 ⟨rfl, hb⟩
    have HI := Lib.hid (HI.out.next hb)
    clear hb CFD RFD c0 c1 c2 c3 c4 c5 c6 c7
    have c0 := (show w5.cell? ⟨w.heap.size, 0, none⟩ = some (.int .i64 c.g.cap) from HI.out.bx.cell 0)
    have c1 := (show w5.cell? ⟨w.heap.size, 1, none⟩ = some (.int .i64 c.g.q) from HI.out.bx.cell 1)
    have c2 := (show w5.cell? ⟨w.heap.size, 2, none⟩ = some (.int .i64 c.g.ar) from HI.out.bx.cell 2)
    have c3 := (show w5.cell? ⟨w.heap.size, 3, none⟩ = some (.int .i64 c.g.ag) from HI.out.bx.cell 3)
    have c4 := (show w5.cell? ⟨w.heap.size, 4, none⟩ = some (.int .u64 c.g.sd) from HI.out.bx.cell 4)
    have c5 := (show w5.cell? ⟨w.heap.size, 5, none⟩ = some (.int .i64 c.g.t) from HI.out.bx.cell 5)
    have c6 := (show w5.cell? ⟨w.heap.size, 6, none⟩ = some (.int .i64 c.g.tau) from HI.out.bx.cell 6)
    have c7 := (show w5.cell? ⟨w.heap.size, 7, none⟩ = some (.slice c.a c.n c.c) from HI.out.bx.cell 7)
    go_wp2_with fail
    refine (CCP.out _ HI.out.l).mono ?_
    rintro e w6 ⟨a2, cap2, L', rfl, hc, hb⟩
    have HI5 := HI
    have HI := Lib.hid (HI.out.next hb)
    have HC := Lib.hid hc
    have HB56 := Lib.hid hb
    have e2 : cfV ⟨c.g, a2, c.n, cap2⟩ = #[.int .i64 c.g.cap, .int .i64 c.g.q, .int .i64 c.g.ar, .int .i64 c.g.ag, .int .u64 c.g.sd, .int .i64 c.g.t, .int .i64 c.g.tau, .slice a2 c.n cap2] := rfl
    rw [e2]
    obtain ⟨W7, hW7⟩ : ∃ W7, W7 = w6.alloc (.cells #[.int .i64 c.g.cap, .int .i64 c.g.q, .int .i64 c.g.ar, .int .i64 c.g.ag, .int .u64 c.g.sd, .int .i64 c.g.t, .int .i64 c.g.tau, .slice a2 c.n cap2] 29) := ⟨_, rfl⟩
    have hb7 : Below w6.heap.size w6 W7 := by rw [hW7]; exact (Below.refl _ _).alloc (Nat.le_refl _) _
    have HB67 := Lib.hid hb7
    have HI7 := Lib.hid (HI.out.next hb7)
    have HA7 := Lib.hid ((HI.out.l.copy (cap := cap2) hc).below hb7)
    have HBK := Lib.hid (show Blk W7 w6.heap.size 29 #[.int .i64 c.g.cap, .int .i64 c.g.q, .int .i64 c.g.ar, .int .i64 c.g.ag, .int .u64 c.g.sd, .int .i64 c.g.t, .int .i64 c.g.tau, .slice a2 c.n cap2] by rw [hW7]; exact Blk.new _ _ _)
    have D1 := Lib.hid (fun d1 os => Calls.regrown_of (CEQ.out (Sort.grow (redrawn W7 d1) os) (HI7.out.l.below (below_regrown W7 d1 os)) (HI7.out.m.below (below_regrown W7 d1 os))))
    have D2 := Lib.hid (fun d1 os => Calls.regrown_of (REQ.out (Sort.grow (redrawn W7 d1) os) (HI7.out.l.below (below_regrown W7 d1 os)) (HI7.out.m.below (below_regrown W7 d1 os))))
    have D3 := Lib.hid (fun d1 os => by
      have h := rcequal_ok ⟨c.g, a2, c.n, cap2⟩ c L' L (Sort.grow (redrawn W7 d1) os) (HA7.out.below (below_regrown W7 d1 os)).eqa (HI7.out.l.below (below_regrown W7 d1 os)).eqa HA7.out.n9 HI7.out.l.n9
      rw [show cfEq ⟨c.g, a2, c.n, cap2⟩ c L' L = true by unfold cfEq; rw [glEq_self, HC.out.same.eq']; rfl, e2, cfV_eq] at h
      exact Calls.regrown_of h)
    have HW7 := Lib.hid hW7
    clear hb hb7 hc e2 hW7 CCP CEQ REQ c0 c1 c2 c3 c4 c5 c6 c7
    have c0 := cell_regrown (show W7.cell? ⟨w.heap.size, 0, none⟩ = some (.int .i64 c.g.cap) from HI7.out.bx.cell 0)
    have c1 := cell_regrown (show W7.cell? ⟨w.heap.size, 1, none⟩ = some (.int .i64 c.g.q) from HI7.out.bx.cell 1)
    have c2 := cell_regrown (show W7.cell? ⟨w.heap.size, 2, none⟩ = some (.int .i64 c.g.ar) from HI7.out.bx.cell 2)
    have c3 := cell_regrown (show W7.cell? ⟨w.heap.size, 3, none⟩ = some (.int .i64 c.g.ag) from HI7.out.bx.cell 3)
    have c4 := cell_regrown (show W7.cell? ⟨w.heap.size, 4, none⟩ = some (.int .u64 c.g.sd) from HI7.out.bx.cell 4)
    have c5 := cell_regrown (show W7.cell? ⟨w.heap.size, 5, none⟩ = some (.int .i64 c.g.t) from HI7.out.bx.cell 5)
    have c6 := cell_regrown (show W7.cell? ⟨w.heap.size, 6, none⟩ = some (.int .i64 c.g.tau) from HI7.out.bx.cell 6)
    have c7 := cell_regrown (show W7.cell? ⟨w.heap.size, 7, none⟩ = some (.slice c.a c.n c.c) from HI7.out.bx.cell 7)
    have d0 := cell_regrown (show W7.cell? ⟨(w.heap.size + 1), 0, none⟩ = some (.int .i64 d.g.cap) from HI7.out.bz.cell 0)
    have d1 := cell_regrown (show W7.cell? ⟨(w.heap.size + 1), 1, none⟩ = some (.int .i64 d.g.q) from HI7.out.bz.cell 1)
    have d2 := cell_regrown (show W7.cell? ⟨(w.heap.size + 1), 2, none⟩ = some (.int .i64 d.g.ar) from HI7.out.bz.cell 2)
    have d3 := cell_regrown (show W7.cell? ⟨(w.heap.size + 1), 3, none⟩ = some (.int .i64 d.g.ag) from HI7.out.bz.cell 3)
    have d4 := cell_regrown (show W7.cell? ⟨(w.heap.size + 1), 4, none⟩ = some (.int .u64 d.g.sd) from HI7.out.bz.cell 4)
    have d5 := cell_regrown (show W7.cell? ⟨(w.heap.size + 1), 5, none⟩ = some (.int .i64 d.g.t) from HI7.out.bz.cell 5)
    have d6 := cell_regrown (show W7.cell? ⟨(w.heap.size + 1), 6, none⟩ = some (.int .i64 d.g.tau) from HI7.out.bz.cell 6)
    have d7 := cell_regrown (show W7.cell? ⟨(w.heap.size + 1), 7, none⟩ = some (.slice d.a d.n d.c) from HI7.out.bz.cell 7)
    have g0 := cell_regrown (show W7.cell? ⟨w6.heap.size, 0, none⟩ = some (.int .i64 c.g.cap) from HBK.out.cell 0)
    have g1 := cell_regrown (show W7.cell? ⟨w6.heap.size, 1, none⟩ = some (.int .i64 c.g.q) from HBK.out.cell 1)
    have g2 := cell_regrown (show W7.cell? ⟨w6.heap.size, 2, none⟩ = some (.int .i64 c.g.ar) from HBK.out.cell 2)
    have g3 := cell_regrown (show W7.cell? ⟨w6.heap.size, 3, none⟩ = some (.int .i64 c.g.ag) from HBK.out.cell 3)
    have g4 := cell_regrown (show W7.cell? ⟨w6.heap.size, 4, none⟩ = some (.int .u64 c.g.sd) from HBK.out.cell 4)
    have g5 := cell_regrown (show W7.cell? ⟨w6.heap.size, 5, none⟩ = some (.int .i64 c.g.t) from HBK.out.cell 5)
    have g6 := cell_regrown (show W7.cell? ⟨w6.heap.size, 6, none⟩ = some (.int .i64 c.g.tau) from HBK.out.cell 6)
    have g7 := cell_regrown (show W7.cell? ⟨w6.heap.size, 7, none⟩ = some (.slice a2 c.n cap2) from HBK.out.cell 7)
    have q1 : (fi != fi) = false := by simp
    have q2 : (fb != fb) = false := by simp
    have q3 : (be != be) = false := by simp
    go_upto_region 6 with fail
    rw [← HW7.out]
    refine wp_region_quiet_below (by kernel_rfl) (by kernel_rfl) ?_
    repeat (go_big_quiet_step (fail))
    go_big_quiet_step ((go_at_call 17; exact D1.out _ _))
    repeat (go_big_quiet_step (fail))
    go_big_quiet_step ((go_at_call 19; exact D2.out _ _))
    repeat (go_big_quiet_step (fail))
    go_big_quiet_step ((go_at_call 19; exact D3.out _ _))
    repeat (go_big_quiet_step (fail))
    refine wpQuiet_nil ?_
    intro _ hw'
    obtain ⟨⟨dq, osq⟩, hw''⟩ := hw'
    subst hw''
    have hb78 := below_regrown W7 dq osq
    have HI8 := Lib.hid (HI7.out.next hb78)
    have HB68 := Lib.hid (HB67.out.trans (hb78.mono HB67.out.size))
    have HBK8 := Lib.hid (HBK.out.below hb78 HBK.out.lt)
    clear D1 D2 D3 hb78 q1 q2 q3 c0 c1 c2 c3 c4 c5 c6 c7 d0 d1 d2 d3 d4 d5 d6 d7 g0 g1 g2 g3 g4 g5 g6 g7
    generalize Sort.grow (redrawn W7 dq) osq = w8 at *
    have c0 := (show w8.cell? ⟨w.heap.size, 0, none⟩ = some (.int .i64 c.g.cap) from HI8.out.bx.cell 0)
    have c1 := (show w8.cell? ⟨w.heap.size, 1, none⟩ = some (.int .i64 c.g.q) from HI8.out.bx.cell 1)
    have c2 := (show w8.cell? ⟨w.heap.size, 2, none⟩ = some (.int .i64 c.g.ar) from HI8.out.bx.cell 2)
    have c3 := (show w8.cell? ⟨w.heap.size, 3, none⟩ = some (.int .i64 c.g.ag) from HI8.out.bx.cell 3)
    have c4 := (show w8.cell? ⟨w.heap.size, 4, none⟩ = some (.int .u64 c.g.sd) from HI8.out.bx.cell 4)
    have c5 := (show w8.cell? ⟨w.heap.size, 5, none⟩ = some (.int .i64 c.g.t) from HI8.out.bx.cell 5)
    have c6 := (show w8.cell? ⟨w.heap.size, 6, none⟩ = some (.int .i64 c.g.tau) from HI8.out.bx.cell 6)
    have c7 := (show w8.cell? ⟨w.heap.size, 7, none⟩ = some (.slice c.a c.n c.c) from HI8.out.bx.cell 7)
    go_wp2_with fail
    refine (RCP.out _ HI8.out.l).mono ?_
    rintro e w9 ⟨a3, cap3, L3, rfl, hr, hb⟩
    have HI9 := Lib.hid (HI8.out.next hb)
    have e3 : cfV ⟨c.g, a3, c.n, cap3⟩ = #[.int .i64 c.g.cap, .int .i64 c.g.q, .int .i64 c.g.ar, .int .i64 c.g.ag, .int .u64 c.g.sd, .int .i64 c.g.t, .int .i64 c.g.tau, .slice a3 c.n cap3] := rfl
    rw [e3]
    obtain ⟨X, hX⟩ : ∃ X, X = w9.alloc (.cells #[.int .i64 c.g.cap, .int .i64 c.g.q, .int .i64 c.g.ar, .int .i64 c.g.ag, .int .u64 c.g.sd, .int .i64 c.g.t, .int .i64 c.g.tau, .slice a3 c.n cap3] 29) := ⟨_, rfl⟩
    have hbX : Below w9.heap.size w9 X := by rw [hX]; exact (Below.refl _ _).alloc (Nat.le_refl _) _
    have HBX := Lib.hid (show Blk X w9.heap.size 29 #[.int .i64 c.g.cap, .int .i64 c.g.q, .int .i64 c.g.ar, .int .i64 c.g.ag, .int .u64 c.g.sd, .int .i64 c.g.t, .int .i64 c.g.tau, .slice a3 c.n cap3] by rw [hX]; exact Blk.new _ _ _)
    have hb6X : Below w6.heap.size w6 X := (HB68.out.trans (hb.mono HB68.out.size)).trans (hbX.mono (Nat.le_trans HB68.out.size hb.size))
    have HRX := Lib.hid (hr.kept (X := X) (fun b _ h => hbX.block b h))
    have HBKX := Lib.hid ((HBK8.out.below hb HBK8.out.lt).below hbX (Nat.lt_of_lt_of_le HBK8.out.lt hb.size))
    have HSZ : Hid (w6.heap.size ≤ w8.heap.size ∧ w8.heap.size ≤ w9.heap.size ∧ w6.heap.size < X.heap.size ∧ w9.heap.size < X.heap.size) := Lib.hid ⟨HB68.out.size, hb.size, Nat.lt_of_lt_of_le HBK8.out.lt (Nat.le_trans hb.size hbX.size), HBX.out.lt⟩
    obtain ⟨g, hg⟩ : ∃ g, 0 < L.length → a2 = some ⟨g, 0, none⟩ := by
      by_cases h0 : 0 < L.length
      · obtain ⟨g, e, _⟩ := HC.out.at_ h0
        exact ⟨g, fun _ => e⟩
      · exact ⟨0, fun h => absurd h h0⟩
    have hb5X : Below w5.heap.size w5 X := HB56.out.trans (hb6X.mono HB56.out.size)
    have HE0 := Lib.hid (HC.out.wrE hb5X hb6X hg)
    have HG := Lib.hid hg
    have HX9 := Lib.hid hX
    have HLEN := Lib.hid (HC.out.len.trans HI.out.l.in_.n)
    have HLL := Lib.hid (HI.out.l.in_.n)
    have HP9 := Lib.hid (HI.out.l.copy (cap := cap2) HC.out).p9
    have HN9 := Lib.hid HI.out.l.n9
    have REQ2 := Lib.hid (fun (W : World) (h1 : EqA W c.a c.n L) (h2 : EqA W a3 c.n L3) => by
      have h := rcequal_ok c ⟨c.g, a3, c.n, cap3⟩ L L3 W h1 h2 HN9.out HN9.out
      rw [show cfEq c ⟨c.g, a3, c.n, cap3⟩ L L3 = true by unfold cfEq; rw [glEq_self, hr.same.eq]; rfl, e3, cfV_eq] at h
      exact h)
    clear hb hX hbX hb6X hb5X hr e3 hg RCP c0 c1 c2 c3 c4 c5 c6 c7
    go_upto_block 0 with fail
    rw [← HX9.out]
    go_wp2_with fail
    go_loopw [13, 14] (fun s13 _ wr => ∃ k : Nat, k ≤ c.n ∧ s13 = .int .i64 k ∧ WrE w5 w6.heap.size g X L' k wr) (fun s13 _ _ => c.n - intJ s13)
    case atStart => exact ⟨0, Nat.zero_le _, rfl, HE0.out⟩
    case round =>
      clear HE0
      obtain ⟨k, hk, rfl, hI⟩ := hrel
      have HE := Lib.hid hI
      have HBK9 := Lib.hid (show Blk wr w6.heap.size 29 #[.int .i64 c.g.cap, .int .i64 c.g.q, .int .i64 c.g.ar, .int .i64 c.g.ag, .int .u64 c.g.sd, .int .i64 c.g.t, .int .i64 c.g.tau, .slice a2 c.n cap2] from (hI.kept _ (Nat.le_refl _)).trans HBKX.out)
      have g7 : wr.cell? ⟨w6.heap.size, 7, none⟩ = some (.slice a2 c.n cap2) := HBK9.out.cell 7
      rcases Nat.lt_or_ge k c.n with hlt | hge
      · have hkl : k < L'.length := by rw [HLEN.out]; exact hlt
        have ha2 := HG.out (by rw [HLL.out]; omega)
        rw [ha2] at g7
        obtain ⟨x, hxk⟩ : ∃ x, L'[k].1.p = x := ⟨_, rfl⟩
        have hx9 : x.n ≤ 200 := by rw [← hxk]; exact HP9.out k hkl
        have HSP := Lib.hid (fun (W : World) (h : WrE w5 w6.heap.size g X L' k W) m (hm : m < x.n) => by
          have := h.sp k hkl (Nat.le_refl _) m (by rw [hxk]; exact hm)
          rwa [hxk] at this)
        have HSL := Lib.hid (fun (W : World) (h : WrE w5 w6.heap.size g X L' k W) => by
          have := h.sl k hkl (Nat.le_refl _)
          rwa [hxk] at this)
        have HTJ := Lib.hid (fun (W : World) (h : WrE w5 w6.heap.size g X L' k W) => h.thereJ hkl)
        have HJB := Lib.hid (fun (W : World) (h : WrE w5 w6.heap.size g X L' k W) (vs : List Value) (hv : vs.length = 30) => h.job hkl vs hv)
        have HE7 := Lib.hid (fun (W : World) (h : WrE w5 w6.heap.size g X L' k W) => by
          have := Blk.cell (show Blk W w6.heap.size 29 #[.int .i64 c.g.cap, .int .i64 c.g.q, .int .i64 c.g.ar, .int .i64 c.g.ag, .int .u64 c.g.sd, .int .i64 c.g.t, .int .i64 c.g.tau, .slice a2 c.n cap2] from (h.kept _ (Nat.le_refl _)).trans HBKX.out) 7
          rwa [ha2] at this)
        clear ha2 hxk hkl hI
        go_wp2_with fail
        go_loopw [14] (fun s14 wr => ∃ j : Nat, j ≤ x.n ∧ s14 = .int .i64 j ∧ WrE w5 w6.heap.size g X L' k wr) (fun s14 _ => x.n - intJ s14)
        case atStart => exact ⟨0, Nat.zero_le _, rfl, HE.out⟩
        case round =>
          clear g7 HE HBK9
          obtain ⟨j, hj, rfl, hI2⟩ := hrel
          have HE2 := Lib.hid hI2
          have g7 : _ = some (Value.slice (some ⟨g, 0, none⟩) c.n cap2) := HE7.out _ hI2
          have g14 := HSL.out _ hI2
          have g14' : World.cell? _ ⟨g, k * 30 + 1 + 13, none⟩ = _ := g14
          rcases Nat.lt_or_ge j x.n with hlt2 | hge2
          · obtain ⟨b, off, ha, hb1, hb2, hb3, hth⟩ := HSP.out _ hI2 j hlt2
            rw [ha] at g14 g14'
            obtain ⟨u0, hu0⟩ := Option.isSome_iff_exists.1 (hth 0 (by decide)).1
            obtain ⟨u1, hu1⟩ := Option.isSome_iff_exists.1 (hth 1 (by decide)).1
            have f0 := (hth 0 (by decide)).2
            have f1 := (hth 1 (by decide)).2
            rw [Nat.add_zero] at hu0 f0
            have HN := Lib.hid ((HE2.out.set hb2 hb3 hb1 (off + j * 2) (.int .i64 (-1))).set hb2 hb3 hb1 (off + j * 2 + 1) (.int .i64 0))
            clear ha hb1 hb2 hb3 hth hI2
            go_wp2_with fail
            refine ⟨⟨j + 1, by omega, by go_num, HN.out⟩, ?_⟩
            simp [intJ]; omega
          · obtain rfl : j = x.n := by omega
            obtain ⟨V, hV⟩ : ∃ V, V = wr.setCells g (k * 30) dashJ.toList := ⟨_, rfl⟩
            have SP : Hid ((storeVar 60 ⟨g, k * 30, none⟩ (.agg dashJ)).run Tryz.prog wr = .ok () V) := Lib.hid (by
              rw [hV]
              exact run_storeVar_mid wr g (k * 30) 60 dashJ (HTJ.out _ hI2) jb_info dashJ_one)
            have HN : Hid (WrE w5 w6.heap.size g X L' (k + 1) V) := Lib.hid (by rw [hV]; exact HJB.out _ hI2 dashJ.toList rfl)
            clear hI2 hj hge2 hV
            go_wp2_with ((refine wpList_store_by rfl 60 (.tmp 101) (.tmp 100) rfl g (k * 30) (.agg dashJ) V ?h1 ?h2 SP.out ?_))
            case h1 => simp only [Act.eval, Array.getD_eq_getD_getElem?, List.getElem?_toArray, List.getElem?_cons_succ, List.getElem?_cons_zero, Option.getD_some]
            case h2 =>
              simp only [Act.eval, Array.getD_eq_getD_getElem?, List.getElem?_toArray, List.getElem?_cons_succ, List.getElem?_cons_zero, Option.getD_some]
              rfl
            refine ⟨⟨k + 1, by omega, by go_num, HN.out⟩, ?_⟩
            simp [intJ]; omega
      · obtain rfl : c.n = k := by omega
        have HBW := Lib.hid (show Blk wr w9.heap.size 29 #[.int .i64 c.g.cap, .int .i64 c.g.q, .int .i64 c.g.ar, .int .i64 c.g.ag, .int .u64 c.g.sd, .int .i64 c.g.t, .int .i64 c.g.tau, .slice a3 c.n cap3] from (hI.kept _ (by have := HSZ.out; omega)).trans HBX.out)
        have HI99 := Lib.hid (show LwD w c d L M wr from HI5.out.next hI.below)
        have HR9 := Lib.hid (CopyR.eqa HI5.out.l (HRX.out.kept (X := wr) (fun b h1 _ => hI.kept b (by have := HSZ.out; omega))))
        have HC9 := Lib.hid (REQ2.out _ HI99.out.l.eqa HR9.out)
        clear hI hge hk HE HBK9
        have c0 := (show wr.cell? ⟨w.heap.size, 0, none⟩ = some (.int .i64 c.g.cap) from HI99.out.bx.cell 0)
        have c1 := (show wr.cell? ⟨w.heap.size, 1, none⟩ = some (.int .i64 c.g.q) from HI99.out.bx.cell 1)
        have c2 := (show wr.cell? ⟨w.heap.size, 2, none⟩ = some (.int .i64 c.g.ar) from HI99.out.bx.cell 2)
        have c3 := (show wr.cell? ⟨w.heap.size, 3, none⟩ = some (.int .i64 c.g.ag) from HI99.out.bx.cell 3)
        have c4 := (show wr.cell? ⟨w.heap.size, 4, none⟩ = some (.int .u64 c.g.sd) from HI99.out.bx.cell 4)
        have c5 := (show wr.cell? ⟨w.heap.size, 5, none⟩ = some (.int .i64 c.g.t) from HI99.out.bx.cell 5)
        have c6 := (show wr.cell? ⟨w.heap.size, 6, none⟩ = some (.int .i64 c.g.tau) from HI99.out.bx.cell 6)
        have c7 := (show wr.cell? ⟨w.heap.size, 7, none⟩ = some (.slice c.a c.n c.c) from HI99.out.bx.cell 7)
        have d0 := (show wr.cell? ⟨w9.heap.size, 0, none⟩ = some (.int .i64 c.g.cap) from HBW.out.cell 0)
        have d1 := (show wr.cell? ⟨w9.heap.size, 1, none⟩ = some (.int .i64 c.g.q) from HBW.out.cell 1)
        have d2 := (show wr.cell? ⟨w9.heap.size, 2, none⟩ = some (.int .i64 c.g.ar) from HBW.out.cell 2)
        have d3 := (show wr.cell? ⟨w9.heap.size, 3, none⟩ = some (.int .i64 c.g.ag) from HBW.out.cell 3)
        have d4 := (show wr.cell? ⟨w9.heap.size, 4, none⟩ = some (.int .u64 c.g.sd) from HBW.out.cell 4)
        have d5 := (show wr.cell? ⟨w9.heap.size, 5, none⟩ = some (.int .i64 c.g.t) from HBW.out.cell 5)
        have d6 := (show wr.cell? ⟨w9.heap.size, 6, none⟩ = some (.int .i64 c.g.tau) from HBW.out.cell 6)
        have d7 := (show wr.cell? ⟨w9.heap.size, 7, none⟩ = some (.slice a3 c.n cap3) from HBW.out.cell 7)
        go_wp2_with fail
        refine (HC9.out).mono ?_
        rintro e w11 ⟨rfl, hb⟩
        have HB11 := Lib.hid (HI99.out.below.trans (hb.mono HI99.out.below.size))
        clear hb c0 c1 c2 c3 c4 c5 c6 c7 d0 d1 d2 d3 d4 d5 d6 d7
        go_wp2_with fail
        refine (CW.out _ HB11.out).mono ?_
        rintro e w99 ⟨rfl, hb⟩
        have HB99 := Lib.hid (HB11.out.trans (hb.mono HB11.out.size))
        clear hb
        go_wp2_with fail
        go_ret
        exact ⟨rfl, HB99.out⟩
end Go.Proofs.YtihadbkjfocdoaaGreatDoor.BW
