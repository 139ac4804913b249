/- Contract of config.Copy. -/
import Derived.Test.YtihadbkjfocdoaaGreatDoorCClone
import Derived.Test.YtihadbkjfocdoaaGreatDoorPRegI
namespace Go.Proofs.YtihadbkjfocdoaaGreatDoor.BW
open Go.RowKit BM Go.Shelf MC RK
open BK hiding ret_bool ret_i64

/-- A copy of the jobs, with memory of its own. -/
structure CopyC (B : Nat) (W : World) (a : Option Addr) (L L' : JL) : Prop where
  len : L'.length = L.length
  at_ : 0 < L.length → ∃ g, a = some ⟨g, 0, none⟩ ∧ B ≤ g ∧ RowC W g L' ∧ ∀ (i : Nat) (x : Jb) (l : List (Int × Int)), L[i]? = some (x, l) → ∃ a' c', L'[i]? = some (x.withS a' c', l) ∧ OwnsS (g + 1) (.slice a' x.p.n c') l W
theorem all_listedC {l : List Oper} {listed : Array Bool} (hs : listed.size = l.length) (hb : ((List.range l.length).all fun i => match l[i]? with | some o => o.after.all (fun e => decide (e.on < i)) | none => true) = true) (h : Region.ready .any l.toArray listed = []) (i : Nat) (hi : i < l.length) : listed[i]? = some true := by
  refine all_listed (md := .any) (ops := l.toArray) (by simpa using hs) (fun j o ho e he => ?_) h i (by simpa using hi)
  have hj : l[j]? = some o := by simpa using ho
  have h1 := List.all_eq_true.1 hb j (List.mem_range.2 (List.getElem?_eq_some_iff.1 hj).1)
  rw [hj] at h1
  simpa using (Array.all_eq_true'.1 h1) e he
theorem dep_listed {listed : Array Bool} {o : Oper} (ha : ∀ e ∈ o.after, Region.binds .any e = true → listed.getD e.on false = true) (j : Nat) (hj : (o.after.any fun e => Region.binds .any e && e.on == j) = true) : listed[j]? = some true := by
  obtain ⟨e, he, h2⟩ := Array.any_eq_true'.1 hj
  rw [Bool.and_eq_true, beq_iff_eq] at h2
  have h3 := ha e he h2.1
  rw [h2.2] at h3
  rw [Array.getD_eq_getD_getElem?] at h3
  cases hv : listed[j]? with
  | none => rw [hv] at h3; cases h3
  | some b => rw [hv] at h3; simpa using h3
/-- A load whose outcome is known. -/
theorem wp_load_by {P : Program} {op : Oper} {a : Act} {w : World} {K : Act → World → Prop} {Q : Exit → Act → World → Prop} (ty : TypeId) (x : Operand) (ho : op.op = .load ty x)
    (b o : Nat) (v : Value) (hx : a.eval x = .pointer (some ⟨b, o, none⟩)) (hl : (loadVar ty ⟨b, o, none⟩).run P w = .ok v w)
    (h : K (a.put op.dst v) w) : op.wp P a w K Q := by
  unfold Oper.wp execOp
  simp only [ho, hx, Instr.loadAt, Instr.sureAddr, Sem.run_bind, Sem.run_pure, Result.andThen_ok, hl]
  exact h
def updC (v : Nat → Value) (i : Nat) (u : Value) : Nat → Value := fun j => if j = i then u else v j
/-- What each operation of the round's region has yielded. -/
def PC (B g k n cap : Nat) (x : Jb) (l : List (Int × Int)) (i : Nat) (v : Value) (W : World) : Prop := match i with
  | 0 => v = .pointer (some ⟨B, 7, none⟩)
  | 1 => v = .slice (some ⟨g, 0, none⟩) n cap
  | 2 => v = .int .i64 k
  | 3 => v = .pointer (some ⟨B, 7, none⟩)
  | 4 => v = .slice (some ⟨g, 0, none⟩) n cap
  | 5 => v = .int .i64 k
  | 6 => v = .pointer (some ⟨g, k * 30, none⟩)
  | 7 => v = .pointer (some ⟨g, k * 30 + 1, none⟩)
  | 8 => v = .agg (plV x.p)
  | 9 => ∃ a' c', v = .agg (plV (x.p.withS a' c')) ∧ OwnsS (g + 1) (.slice a' x.p.n c') l W
  | 10 => v = .pointer (some ⟨g, k * 30, none⟩)
  | 11 => v = .pointer (some ⟨g, k * 30 + 1, none⟩)
  | _ => True
theorem PC.next {B g k n cap i : Nat} {x : Jb} {l : List (Int × Int)} {v : Value} {w w' : World} (h : PC B g k n cap x l i v w) (hb : Below w.heap.size w w') : PC B g k n cap x l i v w' := by
  unfold PC at h ⊢
  split at h
  case h_10 => exact h.imp fun _ h => h.imp fun _ h => ⟨h.1, h.2.below hb⟩
  all_goals exact h
theorem PC.farS {B g k n cap i : Nat} {x : Jb} {l : List (Int × Int)} {v : Value} {w : World} (h : PC B g k n cap x l i v w) (vs : List Value) (o : Nat) : PC B g k n cap x l i v (w.setCells g o vs) := by
  unfold PC at h ⊢
  split at h
  case h_10 => exact h.imp fun _ h => h.imp fun _ h => ⟨h.1, h.2.farS (Nat.lt_succ_self _) _ _ _⟩
  all_goals exact h
structure InvC (w0 : World) (g cap : Nat) (c : Cf) (L : JL) (k : Nat) (L' : JL) (x : Jb) (l : List (Int × Int)) (listed : Array Bool) (v : Nat → Value) (w : World) : Prop where
  all : ∀ i, listed[i]? = some true → PC w0.heap.size g k c.n cap x l i (v i) w
  st : listed[12]? = some false → CpB w0 g cap c L k L' w
  fin : listed[12]? = some true → ∃ L'', CpB w0 g cap c L (k + 1) L'' w
  ord : listed[12]? = some true → ∀ j, j < 10 → listed[j]? = some true
theorem InvC.step {w0 : World} {g cap : Nat} {c : Cf} {L : JL} {k : Nat} {L' : JL} {x : Jb} {l : List (Int × Int)} {listed : Array Bool} {v : Nat → Value} {w w' : World} (h : InvC w0 g cap c L k L' x l listed v w) {i : Nat} {u : Value} (hi : i ≠ 12) (hli : listed[i]? = some false) (hb : Below w.heap.size w w') (hp : PC w0.heap.size g k c.n cap x l i u w') : InvC w0 g cap c L k L' x l (listed.setIfInBounds i true) (updC v i u) w' := by
  refine ⟨fun j hj => ?_, fun hz => ?_, fun hz => ?_, fun hz j hj => ?_⟩
  · unfold updC
    by_cases e : j = i
    · subst e; rw [if_pos rfl]; exact hp
    · rw [if_neg e]
      rw [Array.getElem?_setIfInBounds_ne (fun e' => e e'.symm)] at hj
      exact (h.all j hj).next hb
  · rw [Array.getElem?_setIfInBounds_ne hi] at hz
    exact (h.st hz).next hb
  · rw [Array.getElem?_setIfInBounds_ne hi] at hz
    obtain ⟨L'', h'⟩ := h.fin hz
    exact ⟨L'', h'.next hb⟩
  · rw [Array.getElem?_setIfInBounds_ne hi] at hz
    by_cases e : i = j
    · subst e
      have := h.ord hz i hj
      rw [hli] at this
      cases this
    · rw [Array.getElem?_setIfInBounds_ne e]; exact h.ord hz j hj
theorem InvC.at8 {w0 : World} {g cap : Nat} {c : Cf} {L : JL} {k : Nat} {L' : JL} {x : Jb} {l : List (Int × Int)} {listed : Array Bool} {v : Nat → Value} {w : World} (h : InvC w0 g cap c L k L' x l listed v w) (hs : listed.size = 13) {i : Nat} (hi : i < 10) (hli : listed[i]? = some false) : CpB w0 g cap c L k L' w := by
  cases hv : listed[12]? with
  | none => rw [Array.getElem?_eq_none_iff] at hv; omega
  | some b =>
    cases b
    · exact h.st hv
    · have := h.ord hv i hi
      rw [hli] at this
      cases this
theorem InvC.dep {w0 : World} {g cap : Nat} {c : Cf} {L : JL} {k : Nat} {L' : JL} {x : Jb} {l : List (Int × Int)} {listed : Array Bool} {v : Nat → Value} {w : World} (h : InvC w0 g cap c L k L' x l listed v w) {o : Oper} (ha : ∀ e ∈ o.after, Region.binds .any e = true → listed.getD e.on false = true) (j : Nat) (hj : (o.after.any fun e => Region.binds .any e && e.on == j) = true) : PC w0.heap.size g k c.n cap x l j (v j) w := h.all j (dep_listed ha j hj)
theorem InvC.cp {w0 : World} {g cap : Nat} {c : Cf} {L : JL} {k : Nat} {L' : JL} {x : Jb} {l : List (Int × Int)} {listed : Array Bool} {v : Nat → Value} {w : World} (h : InvC w0 g cap c L k L' x l listed v w) (hs : listed.size = 13) : ∃ k' L'', k ≤ k' ∧ CpB w0 g cap c L k' L'' w := by
  cases hv : listed[12]? with
  | none => rw [Array.getElem?_eq_none_iff] at hv; omega
  | some b =>
    cases b
    · exact ⟨k, L', Nat.le_refl _, h.st hv⟩
    · obtain ⟨L'', h'⟩ := h.fin hv
      exact ⟨k + 1, L'', Nat.le_succ _, h'⟩
theorem RowC.far {W : World} {g : Nat} {L : JL} (h : RowC W g L) {b o : Nat} (hb : b ≠ g) (u : Value) : RowC (W.setCell ⟨b, o, none⟩ u) g L := fun i hi j hj => by
  have := h i hi j hj
  exact ⟨(World.cell?_setCell_other _ _ _ _ (by simp <;> omega)).trans this.1, by rw [World.frozen?_setCell]; exact this.2⟩
/-- The copy beside the writes into the result. -/
structure CpO (w : World) (g : Nat) (L L' : JL) (W : World) : Prop where
  row : RowC W g L'
  new : ∀ (i : Nat) (x : Jb) (l : List (Int × Int)), L[i]? = some (x, l) → ∃ a' c', L'[i]? = some (x.withS a' c', l) ∧ OwnsS (g + 1) (.slice a' x.p.n c') l W
  below : Below w.heap.size w W
theorem CpO.set {w : World} {g : Nat} {L L' : JL} {W : World} (h : CpO w g L L' W) (hg : w.heap.size + 2 ≤ g) (o : Nat) (u : Value) : CpO w g L L' (W.setCell ⟨w.heap.size + 1, o, none⟩ u) :=
  ⟨h.row.far (by omega) u, fun i x l hx => by
    obtain ⟨a', c', h1, h2⟩ := h.new i x l hx
    exact ⟨a', c', h1, h2.far (by omega) u⟩, h.below.setCell (Nat.le_succ _) u⟩
theorem blk8 {w : World} {b : Nat} {T : TypeId} {cs : Array Value} (h : Blk w b T cs) (hs : cs.size = 8) (v0 v1 v2 v3 v4 v5 v6 v7 : Value) :
    Blk ((((((((w.setCell ⟨b, 0, none⟩ v0).setCell ⟨b, 1, none⟩ v1).setCell ⟨b, 2, none⟩ v2).setCell ⟨b, 3, none⟩ v3).setCell ⟨b, 4, none⟩ v4).setCell ⟨b, 5, none⟩ v5).setCell ⟨b, 6, none⟩ v6).setCell ⟨b, 7, none⟩ v7) b T #[v0, v1, v2, v3, v4, v5, v6, v7] := by
  obtain ⟨c0, c1, c2, c3, c4, c5, c6, c7, rfl⟩ : ∃ c0 c1 c2 c3 c4 c5 c6 c7, cs = #[c0, c1, c2, c3, c4, c5, c6, c7] := by
    obtain ⟨l⟩ := cs
    match l, hs with
    | [c0, c1, c2, c3, c4, c5, c6, c7], _ => exact ⟨c0, c1, c2, c3, c4, c5, c6, c7, rfl⟩
  have h' := (((((((h.set_ 0 v0).set_ 1 v1).set_ 2 v2).set_ 3 v3).set_ 4 v4).set_ 5 v5).set_ 6 v6).set_ 7 v7
  simpa using h'
set_option maxRecDepth 8000 in
set_option maxHeartbeats 8000000 in
theorem ccopy_ok (c : Cf) (L : JL) (w : World) (h1 : EqA w c.a c.n L) (hn9 : c.n ≤ 200) : Calls Tryz.prog 14 #[.agg (cfV c)] w fun e w' => ∃ a cap L', e = .returned (.agg (cfV ⟨c.g, a, c.n, cap⟩)) ∧ CopyC w.heap.size w' a L L' ∧ Below w.heap.size w w' := by
  obtain ⟨W1, hW1⟩ : ∃ W1, W1 = (w.alloc (.cells (cfV c) 29)).alloc (.cells #[.int .i64 0, .int .i64 0, .int .i64 0, .int .i64 0, .int .u64 0, .int .i64 0, .int .i64 0, .slice none 0 0] 29) := ⟨_, rfl⟩
  have hbx : Blk W1 w.heap.size 29 (cfV c) := by rw [hW1]; exact (Blk.new w _ _).alloc _
  have hbz : Blk W1 (w.heap.size + 1) 29 #[.int .i64 0, .int .i64 0, .int .i64 0, .int .i64 0, .int .u64 0, .int .i64 0, .int .i64 0, .slice none 0 0] := by rw [hW1]; exact Blk.newAt (by simp)
  have hB1 : Below w.heap.size w W1 := by rw [hW1]; exact ((Below.refl _ w).alloc (Nat.le_refl _) _).alloc (by simp) _
  have CC := Lib.hid (cjclone_ok L c.a c.n c.c h1.n hn9 W1 (h1.at_.below hB1))
  have HA := Lib.hid h1
  have HN := Lib.hid h1.n
  have HW1 := Lib.hid hW1
  have hsz : W1.heap.size = w.heap.size + 2 := by rw [hW1]; simp
  have HSZ := Lib.hid hsz
  have e0 : cfV c = #[.int .i64 c.g.cap, .int .i64 c.g.q, .int .i64 c.g.ar, .int .i64 c.g.ag, .int .u64 c.g.sd, .int .i64 c.g.t, .int .i64 c.g.tau, .slice c.a c.n c.c] := rfl
  rw [hW1] at CC
  rw [e0] at CC ⊢
  clear hW1 h1 e0 hsz
  go_enter Tryz.func14, Tryz.ntmps14
  go_wp2_with fail
  refine (CC.out).mono ?_
  rintro e_ w2 ⟨v, rfl, ho, hb⟩
  have hb : Below W1.heap.size W1 w2 := by rw [HW1.out]; exact hb
  have ho2 : OwnsC W1.heap.size v L w2 := by rw [HW1.out]; exact ho
  clear ho CC
  have hx2 := hbx.below hb hbx.lt
  have hz2 := hbz.below hb hbz.lt
  obtain ⟨ad, cap, rfl, hs, hs2⟩ := ho2.shape
  rw [HN.out] at *
  have HO := Lib.hid ho2
  have HB2 := Lib.hid (hB1.trans (hb.mono hB1.size))
  have HX2 := Lib.hid hx2
  have HZ2 := Lib.hid hz2
  have p7 : w2.cell? ⟨w.heap.size, 7, none⟩ = some (.slice c.a c.n c.c) := hx2.cell 7
  have f7 : w2.frozen? ⟨w.heap.size, 7, none⟩ = false := hx2.frozen 7
  have HS := Lib.hid (And.intro hs hs2)
  clear hb hbx hbz hB1 hx2 hz2 ho2 hs hs2
  by_cases h0 : c.n = 0
  · have H0 : Hid (Blk (w2.setCell ⟨w.heap.size, 7, none⟩ (.slice ad c.n cap)) w.heap.size 29 (cfV ⟨c.g, ad, c.n, cap⟩) ∧ Blk (w2.setCell ⟨w.heap.size, 7, none⟩ (.slice ad c.n cap)) (w.heap.size + 1) 29 #[.int .i64 0, .int .i64 0, .int .i64 0, .int .i64 0, .int .u64 0, .int .i64 0, .int .i64 0, .slice none 0 0] ∧ Below w.heap.size w (w2.setCell ⟨w.heap.size, 7, none⟩ (.slice ad c.n cap))) := Lib.hid (by
      refine ⟨?_, HZ2.out.far (by simp) _, HB2.out.setCell (Nat.le_refl _) _⟩
      have := HX2.out.set_ 7 (.slice ad c.n cap)
      simpa [cfV] using this)
    have HL0 : Hid (L = []) := Lib.hid (List.eq_nil_of_length_eq_zero (by rw [HA.out.n]; exact h0))
    have hlt : ¬ ((0 : Int) < (c.n : Int)) := by omega
    clear HS h0
    go_wp2_with fail
    go_loopw [3, 11] (fun _ s11 wr => s11 = .int .i64 0 ∧ Blk wr w.heap.size 29 (cfV ⟨c.g, ad, c.n, cap⟩) ∧ Blk wr (w.heap.size + 1) 29 #[.int .i64 0, .int .i64 0, .int .i64 0, .int .i64 0, .int .u64 0, .int .i64 0, .int .i64 0, .slice none 0 0] ∧ Below w.heap.size w wr) (fun _ _ _ => 0)
    case atStart => exact ⟨rfl, H0.out⟩
    case round =>
      obtain ⟨rfl, hI1, hI2, hI3⟩ := hrel
      have p0 : wr.cell? ⟨w.heap.size, 0, none⟩ = some (.int .i64 c.g.cap) := hI1.cell 0
      have p1 : wr.cell? ⟨w.heap.size, 1, none⟩ = some (.int .i64 c.g.q) := hI1.cell 1
      have p2 : wr.cell? ⟨w.heap.size, 2, none⟩ = some (.int .i64 c.g.ar) := hI1.cell 2
      have p3 : wr.cell? ⟨w.heap.size, 3, none⟩ = some (.int .i64 c.g.ag) := hI1.cell 3
      have p4 : wr.cell? ⟨w.heap.size, 4, none⟩ = some (.int .u64 c.g.sd) := hI1.cell 4
      have p5 : wr.cell? ⟨w.heap.size, 5, none⟩ = some (.int .i64 c.g.t) := hI1.cell 5
      have p6 : wr.cell? ⟨w.heap.size, 6, none⟩ = some (.int .i64 c.g.tau) := hI1.cell 6
      have p7 : wr.cell? ⟨w.heap.size, 7, none⟩ = some (.slice ad c.n cap) := hI1.cell 7
      have q0 : wr.cell? ⟨w.heap.size + 1, 0, none⟩ = some (.int .i64 0) := hI2.cell 0
      have f0 : wr.frozen? ⟨w.heap.size + 1, 0, none⟩ = false := hI2.frozen 0
      have q1 : wr.cell? ⟨w.heap.size + 1, 1, none⟩ = some (.int .i64 0) := hI2.cell 1
      have f1 : wr.frozen? ⟨w.heap.size + 1, 1, none⟩ = false := hI2.frozen 1
      have q2 : wr.cell? ⟨w.heap.size + 1, 2, none⟩ = some (.int .i64 0) := hI2.cell 2
      have f2 : wr.frozen? ⟨w.heap.size + 1, 2, none⟩ = false := hI2.frozen 2
      have q3 : wr.cell? ⟨w.heap.size + 1, 3, none⟩ = some (.int .i64 0) := hI2.cell 3
      have f3 : wr.frozen? ⟨w.heap.size + 1, 3, none⟩ = false := hI2.frozen 3
      have q4 : wr.cell? ⟨w.heap.size + 1, 4, none⟩ = some (.int .u64 0) := hI2.cell 4
      have f4 : wr.frozen? ⟨w.heap.size + 1, 4, none⟩ = false := hI2.frozen 4
      have q5 : wr.cell? ⟨w.heap.size + 1, 5, none⟩ = some (.int .i64 0) := hI2.cell 5
      have f5 : wr.frozen? ⟨w.heap.size + 1, 5, none⟩ = false := hI2.frozen 5
      have q6 : wr.cell? ⟨w.heap.size + 1, 6, none⟩ = some (.int .i64 0) := hI2.cell 6
      have f6 : wr.frozen? ⟨w.heap.size + 1, 6, none⟩ = false := hI2.frozen 6
      have q7 : wr.cell? ⟨w.heap.size + 1, 7, none⟩ = some (.slice none 0 0) := hI2.cell 7
      have f7 : wr.frozen? ⟨w.heap.size + 1, 7, none⟩ = false := hI2.frozen 7
      have HZ := Lib.hid hI2
      have HB := Lib.hid hI3
      clear H0 hI1 hI2 hI3
      go_wp2_with fail
      have HZ3 := blk8 HZ.out rfl (.int .i64 c.g.cap) (.int .i64 c.g.q) (.int .i64 c.g.ar) (.int .i64 c.g.ag) (.int .u64 c.g.sd) (.int .i64 c.g.t) (.int .i64 c.g.tau) (.slice ad c.n cap)
      refine bodyPost_ret (results_cell_row rfl _ _ (w.heap.size + 1) _ _ (0, 0) _ rfl HZ3 Tryz.underlying29 rfl (by kernel_rfl)) rfl ?_
      refine ⟨ad, cap, [], rfl, ⟨by rw [HL0.out], fun h => by rw [HL0.out] at h; cases h⟩, ?_⟩
      repeat refine Below.setCell ?_ (by first | exact Nat.le_refl _ | exact Nat.le_succ _) _
      exact HB.out
  · obtain ⟨g, rfl⟩ := HS.out.2 (by omega)
    have hg2 : w.heap.size + 2 ≤ g := by
      obtain ⟨g', e, hg⟩ := HS.out.1 _ rfl
      injection e with e
      rw [HSZ.out] at hg
      omega
    have H0 : Hid (CpB w g cap c L 0 L (w2.setCell ⟨w.heap.size, 7, none⟩ (.slice (some ⟨g, 0, none⟩) c.n cap))) := Lib.hid (by
      have hr := (OwnsC.row HO.out)
      refine ⟨?_, HZ2.out.far (by simp) _, hg2, rfl, ?_, fun i _ => rfl, fun i hi => absurd hi (Nat.not_lt_zero _), HB2.out.setCell (Nat.le_refl _) _⟩
      · have := HX2.out.set_ 7 (.slice (some ⟨g, 0, none⟩) c.n cap)
        simpa [cfV] using this
      · intro i hi j hj
        have := hr i hi j hj
        exact ⟨(World.cell?_setCell_other _ _ _ _ (by simp <;> omega)).trans this.1, by rw [World.frozen?_setCell]; exact this.2⟩)
    have HG := Lib.hid hg2
    clear HS
    go_wp2_with fail
    go_loopw [3, 11] (fun _ s11 wr => ∃ k : Nat, k ≤ c.n ∧ s11 = .int .i64 k ∧ ∃ L', CpB w g cap c L k L' wr) (fun _ s11 _ => c.n - intJ s11)
    case atStart => exact ⟨0, Nat.zero_le _, rfl, L, H0.out⟩
    case round =>
      obtain ⟨k, hk, rfl, L', hI⟩ := hrel
      have HI := Lib.hid hI
      rcases Nat.lt_or_ge k c.n with hlt | hge
      · clear hI H0
        obtain ⟨x, l, hxl, _, _, hx9⟩ := (HA.out).get hlt
        have HXL := Lib.hid hxl
        have HPC := Lib.hid (fun (wx : World) (hB : Below w.heap.size w wx) => by
          obtain ⟨x', l', hxl', _, hpx, _⟩ := (HA.out.below hB).get hlt
          obtain ⟨rfl, rfl⟩ : x = x' ∧ l = l' := by rw [hxl] at hxl'; injection hxl' with h; injection h with h1 h2; exact ⟨h1, h2⟩
          exact plcopy_ok x.p l wx hpx hx9)
        have HLK : Hid (∀ {wx : World}, CpB w g cap c L k L' wx → ∃ hkl : k < L'.length, L'[k] = (x, l)) := Lib.hid (fun hcp => by
          have hkl : k < L'.length := by rw [hcp.len, HA.out.n]; exact hlt
          refine ⟨hkl, ?_⟩
          have := hcp.old k (Nat.le_refl _)
          rw [hxl, List.getElem?_eq_getElem hkl] at this
          injection this)
        clear hxl hx9
        go_upto_region 5 with fail
        refine wp_region_inv (I := fun listed a wx => ∃ v : Nat → Value, a = ⟨#[.agg #[.int .i64 c.g.cap, .int .i64 c.g.q, .int .i64 c.g.ar, .int .i64 c.g.ag, .int .u64 c.g.sd, .int .i64 c.g.t, .int .i64 c.g.tau, .slice c.a c.n c.c], .pointer (some ⟨w.heap.size, 0, none⟩), .pointer (some ⟨w.heap.size + 1, 0, none⟩), .int .i64 k, .pointer (some ⟨w.heap.size, 7, none⟩), .slice c.a c.n c.c, .slice (some ⟨g, 0, none⟩) c.n cap, .pointer (some ⟨w.heap.size, 7, none⟩), .pointer (some ⟨w.heap.size, 7, none⟩), .slice (some ⟨g, 0, none⟩) c.n cap, .int .i64 c.n, .int .i64 k, .bool true, .int .i64 k, v 0, v 1, v 2, v 3, v 4, v 5, v 6, v 7, v 8, v 9, v 10, v 11, u26, undef], []⟩ ∧ InvC w g cap c L k L' x l listed v wx) (by kernel_rfl) ?_ ?_ ?_
        · exact ⟨fun i => match i with | 0 => u14 | 1 => u15 | 2 => u16 | 3 => u17 | 4 => u18 | 5 => u19 | 6 => u20 | 7 => u21 | 8 => u22 | 9 => u23 | 10 => u24 | 11 => u25 | _ => undef, rfl, ⟨fun i hi => by
            exfalso
            rw [Array.getElem?_replicate] at hi
            split at hi <;> simp at hi, fun _ => HI.out.next (below_drewN (Below.refl _ _) 1), fun hi => by
            exfalso
            rw [Array.getElem?_replicate] at hi
            split at hi <;> simp at hi, fun hi => by
            exfalso
            rw [Array.getElem?_replicate] at hi
            split at hi <;> simp at hi⟩⟩
        · rintro listed a wx i o hsz ho hli ha ⟨v, rfl, hI⟩
          have HV := Lib.hid hI
          have HSZ2 := Lib.hid (show listed.size = 13 from hsz)
          have hi : i < 13 := (List.getElem?_eq_some_iff.1 ho).1
          clear hI hsz
          obtain rfl | rfl | rfl | rfl | rfl | rfl | rfl | rfl | rfl | rfl | rfl | rfl | rfl : i = 0 ∨ i = 1 ∨ i = 2 ∨ i = 3 ∨ i = 4 ∨ i = 5 ∨ i = 6 ∨ i = 7 ∨ i = 8 ∨ i = 9 ∨ i = 10 ∨ i = 11 ∨ i = 12 := by omega
          · -- operation 0
            cases ho
            refine wpOp_step rfl (fun K hK => ?_)
            go_simp
            exact hK _ _ ⟨updC v 0 _, rfl, HV.out.step (by decide) hli (Below.refl _ _) rfl⟩
          · -- operation 1
            cases ho
            have h0 := HV.out.dep ha 0 (by kernel_rfl)
            replace h0 : v 0 = _ := h0
            have c7 : wx.cell? ⟨w.heap.size, 7, none⟩ = some (.slice (some ⟨g, 0, none⟩) c.n cap) := by
              obtain ⟨k', L'', _, hcp⟩ := HV.out.cp HSZ2.out
              exact hcp.box.cell 7
            refine wpOp_step rfl (fun K hK => ?_)
            go_simp
            exact hK _ _ ⟨updC v 1 _, by simp [updC, h0], HV.out.step (by decide) hli (Below.refl _ _) rfl⟩
          · -- operation 2
            cases ho
            refine wpOp_step rfl (fun K hK => ?_)
            go_simp
            exact hK _ _ ⟨updC v 2 _, rfl, HV.out.step (by decide) hli (Below.refl _ _) rfl⟩
          · -- operation 3
            cases ho
            refine wpOp_step rfl (fun K hK => ?_)
            go_simp
            exact hK _ _ ⟨updC v 3 _, rfl, HV.out.step (by decide) hli (Below.refl _ _) rfl⟩
          · -- operation 4
            cases ho
            have h3 := HV.out.dep ha 3 (by kernel_rfl)
            replace h3 : v 3 = _ := h3
            have c7 : wx.cell? ⟨w.heap.size, 7, none⟩ = some (.slice (some ⟨g, 0, none⟩) c.n cap) := by
              obtain ⟨k', L'', _, hcp⟩ := HV.out.cp HSZ2.out
              exact hcp.box.cell 7
            refine wpOp_step rfl (fun K hK => ?_)
            go_simp
            exact hK _ _ ⟨updC v 4 _, by simp [updC, h3], HV.out.step (by decide) hli (Below.refl _ _) rfl⟩
          · -- operation 5
            cases ho
            refine wpOp_step rfl (fun K hK => ?_)
            go_simp
            exact hK _ _ ⟨updC v 5 _, rfl, HV.out.step (by decide) hli (Below.refl _ _) rfl⟩
          · -- operation 6
            cases ho
            have h4 := HV.out.dep ha 4 (by kernel_rfl)
            replace h4 : v 4 = _ := h4
            have h5 := HV.out.dep ha 5 (by kernel_rfl)
            replace h5 : v 5 = _ := h5
            refine wpOp_step rfl (fun K hK => ?_)
            go_simp
            exact hK _ _ ⟨updC v 6 _, by simp [updC, h4, h5], HV.out.step (by decide) hli (Below.refl _ _) rfl⟩
          · -- operation 7
            cases ho
            have h6 := HV.out.dep ha 6 (by kernel_rfl)
            replace h6 : v 6 = _ := h6
            refine wpOp_step rfl (fun K hK => ?_)
            go_simp
            exact hK _ _ ⟨updC v 7 _, by simp [updC, h6], HV.out.step (by decide) hli (Below.refl _ _) rfl⟩
          · -- operation 8
            cases ho
            have h7 := HV.out.dep ha 7 (by kernel_rfl)
            replace h7 : v 7 = _ := h7
            have hcp := HV.out.at8 HSZ2.out (by decide) hli
            obtain ⟨hkl, hxk⟩ := HLK.out hcp
            have hld : JbAt wx g (k * 30) x := fun i hi => by
              have := (hcp.row k hkl i hi).1
              rw [hxk] at this
              exact this
            refine wpOp_step rfl (fun K hK => ?_)
            refine wp_load_by _ _ rfl g (k * 30 + 1) (.agg (plV x.p)) h7 hld.plan ?_
            exact hK _ _ ⟨updC v 8 _, rfl, HV.out.step (by decide) hli (Below.refl _ _) rfl⟩
          · -- operation 9
            cases ho
            have h8 := HV.out.dep ha 8 (by kernel_rfl)
            replace h8 : v 8 = _ := h8
            have hcp := HV.out.at8 HSZ2.out (by decide) hli
            have CP := HPC.out wx hcp.below
            have hgl : g + 1 ≤ wx.heap.size := hcp.row.lt (by have := (HLK.out hcp).1; omega)
            clear hcp
            refine wpOp_step rfl (fun K hK => ?_)
            go_simp
            refine CP.mono ?_
            rintro _ w5 ⟨a', c', rfl, ho, hb⟩
            exact hK _ _ ⟨updC v 9 _, by simp [updC, h8], HV.out.step (by decide) hli hb ⟨a', c', rfl, ho.mono hgl⟩⟩
          · -- operation 10
            cases ho
            have h1 := HV.out.dep ha 1 (by kernel_rfl)
            replace h1 : v 1 = _ := h1
            have h2 := HV.out.dep ha 2 (by kernel_rfl)
            replace h2 : v 2 = _ := h2
            refine wpOp_step rfl (fun K hK => ?_)
            go_simp
            exact hK _ _ ⟨updC v 10 _, by simp [updC, h1, h2], HV.out.step (by decide) hli (Below.refl _ _) rfl⟩
          · -- operation 11
            cases ho
            have h10 := HV.out.dep ha 10 (by kernel_rfl)
            replace h10 : v 10 = _ := h10
            refine wpOp_step rfl (fun K hK => ?_)
            go_simp
            exact hK _ _ ⟨updC v 11 _, by simp [updC, h10], HV.out.step (by decide) hli (Below.refl _ _) rfl⟩
          · -- operation 12
            cases ho
            have h11 := HV.out.dep ha 11 (by kernel_rfl)
            replace h11 : v 11 = _ := h11
            obtain ⟨a', c', h9, ho9⟩ : ∃ a' c', v 9 = .agg (plV (x.p.withS a' c')) ∧ OwnsS (g + 1) (.slice a' x.p.n c') l wx := HV.out.dep ha 9 (by kernel_rfl)
            have hcp := HV.out.st hli
            obtain ⟨hkl, hxk⟩ := HLK.out hcp
            refine wpOp_step rfl (fun K hK => ?_)
            refine wp_store_mid _ _ _ rfl g (k * 30 + 1) (plV (x.p.withS a' c')) h11 h9 (hcp.row.there k hkl) pl_info (by simp [plV, Value.oneCell']) ?_
            refine hK _ _ ⟨v, rfl, ⟨fun j hj => ?_, fun hz => ?_, fun _ => ⟨_, hcp.store HXL.out ho9⟩, fun _ j hj => ?_⟩⟩
            · by_cases e : j = 12
              · subst e; trivial
              · rw [Array.getElem?_setIfInBounds_ne (fun e' => e e'.symm)] at hj
                exact (HV.out.all j hj).farS _ _
            · exfalso
              have hb12 : 12 < listed.size := by rw [HSZ2.out]; decide
              simp [hb12] at hz
            · rw [Array.getElem?_setIfInBounds_ne (by omega)]
              obtain rfl | rfl | rfl | rfl | rfl | rfl | rfl | rfl | rfl | rfl : j = 0 ∨ j = 1 ∨ j = 2 ∨ j = 3 ∨ j = 4 ∨ j = 5 ∨ j = 6 ∨ j = 7 ∨ j = 8 ∨ j = 9 := by omega
              all_goals exact dep_listed ha _ (by kernel_rfl)
        · rintro listed a wx hsz hr ⟨v, rfl, hI⟩
          obtain ⟨L'', hF⟩ := hI.fin (all_listedC hsz (by kernel_rfl) hr 12 (by decide))
          have HF := Lib.hid hF
          clear hI hr hsz hF
          go_wp2_with fail
          refine ⟨⟨k + 1, by omega, by go_num, L'', HF.out⟩, ?_⟩
          simp [intJ]; omega
      · obtain rfl : c.n = k := by omega
        have p0 : wr.cell? ⟨w.heap.size, 0, none⟩ = some (.int .i64 c.g.cap) := HI.out.box.cell 0
        have p1 : wr.cell? ⟨w.heap.size, 1, none⟩ = some (.int .i64 c.g.q) := HI.out.box.cell 1
        have p2 : wr.cell? ⟨w.heap.size, 2, none⟩ = some (.int .i64 c.g.ar) := HI.out.box.cell 2
        have p3 : wr.cell? ⟨w.heap.size, 3, none⟩ = some (.int .i64 c.g.ag) := HI.out.box.cell 3
        have p4 : wr.cell? ⟨w.heap.size, 4, none⟩ = some (.int .u64 c.g.sd) := HI.out.box.cell 4
        have p5 : wr.cell? ⟨w.heap.size, 5, none⟩ = some (.int .i64 c.g.t) := HI.out.box.cell 5
        have p6 : wr.cell? ⟨w.heap.size, 6, none⟩ = some (.int .i64 c.g.tau) := HI.out.box.cell 6
        have p7 : wr.cell? ⟨w.heap.size, 7, none⟩ = some (.slice (some ⟨g, 0, none⟩) c.n cap) := HI.out.box.cell 7
        have q0 : wr.cell? ⟨w.heap.size + 1, 0, none⟩ = some (.int .i64 0) := HI.out.zb.cell 0
        have f0 : wr.frozen? ⟨w.heap.size + 1, 0, none⟩ = false := HI.out.zb.frozen 0
        have q1 : wr.cell? ⟨w.heap.size + 1, 1, none⟩ = some (.int .i64 0) := HI.out.zb.cell 1
        have f1 : wr.frozen? ⟨w.heap.size + 1, 1, none⟩ = false := HI.out.zb.frozen 1
        have q2 : wr.cell? ⟨w.heap.size + 1, 2, none⟩ = some (.int .i64 0) := HI.out.zb.cell 2
        have f2 : wr.frozen? ⟨w.heap.size + 1, 2, none⟩ = false := HI.out.zb.frozen 2
        have q3 : wr.cell? ⟨w.heap.size + 1, 3, none⟩ = some (.int .i64 0) := HI.out.zb.cell 3
        have f3 : wr.frozen? ⟨w.heap.size + 1, 3, none⟩ = false := HI.out.zb.frozen 3
        have q4 : wr.cell? ⟨w.heap.size + 1, 4, none⟩ = some (.int .u64 0) := HI.out.zb.cell 4
        have f4 : wr.frozen? ⟨w.heap.size + 1, 4, none⟩ = false := HI.out.zb.frozen 4
        have q5 : wr.cell? ⟨w.heap.size + 1, 5, none⟩ = some (.int .i64 0) := HI.out.zb.cell 5
        have f5 : wr.frozen? ⟨w.heap.size + 1, 5, none⟩ = false := HI.out.zb.frozen 5
        have q6 : wr.cell? ⟨w.heap.size + 1, 6, none⟩ = some (.int .i64 0) := HI.out.zb.cell 6
        have f6 : wr.frozen? ⟨w.heap.size + 1, 6, none⟩ = false := HI.out.zb.frozen 6
        have q7 : wr.cell? ⟨w.heap.size + 1, 7, none⟩ = some (.slice none 0 0) := HI.out.zb.cell 7
        have f7 : wr.frozen? ⟨w.heap.size + 1, 7, none⟩ = false := HI.out.zb.frozen 7
        have HO3 : Hid (CpO w g L L' wr) := Lib.hid ⟨HI.out.row, fun i x l hx => HI.out.new i (by have := (List.getElem?_eq_some_iff.1 hx).1; rw [HA.out.n] at this; exact this) x l hx, HI.out.below⟩
        have HLL := Lib.hid HI.out.len
        have HZ := Lib.hid HI.out.zb
        have HG2 := Lib.hid HI.out.ge
        clear H0 HI hI
        go_wp2_with fail
        have HZ3 := blk8 HZ.out rfl (.int .i64 c.g.cap) (.int .i64 c.g.q) (.int .i64 c.g.ar) (.int .i64 c.g.ag) (.int .u64 c.g.sd) (.int .i64 c.g.t) (.int .i64 c.g.tau) (.slice (some ⟨g, 0, none⟩) c.n cap)
        refine bodyPost_ret (results_cell_row rfl _ _ (w.heap.size + 1) _ _ (0, 0) _ rfl HZ3 Tryz.underlying29 rfl (by kernel_rfl)) rfl ?_
        have hf : CpO w g L L' _ := (((((((HO3.out.set HG2.out 0 (.int .i64 c.g.cap)).set HG2.out 1 (.int .i64 c.g.q)).set HG2.out 2 (.int .i64 c.g.ar)).set HG2.out 3 (.int .i64 c.g.ag)).set HG2.out 4 (.int .u64 c.g.sd)).set HG2.out 5 (.int .i64 c.g.t)).set HG2.out 6 (.int .i64 c.g.tau)).set HG2.out 7 (.slice (some ⟨g, 0, none⟩) c.n cap)
        exact ⟨some ⟨g, 0, none⟩, cap, L', rfl, ⟨HLL.out, fun _ => ⟨g, rfl, by omega, hf.row, hf.new⟩⟩, hf.below⟩
end Go.Proofs.YtihadbkjfocdoaaGreatDoor.BW
