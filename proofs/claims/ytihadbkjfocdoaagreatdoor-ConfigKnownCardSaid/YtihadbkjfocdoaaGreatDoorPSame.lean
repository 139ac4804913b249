/- Contracts of the copies of plans. -/
import Derived.Test.YtihadbkjfocdoaaGreatDoorPWk
import Derived.Lib.SliceRun
namespace Go.Proofs.YtihadbkjfocdoaaGreatDoor.BW
open Go.RowKit BM Go.Shelf MC RK
open BK hiding ret_bool ret_i64

theorem cellsS_at {l : List (Int × Int)} {b off : Nat} {w : World} {T : Option Addr} (h : SpansAt w T l) (hT : T = some ⟨b, off, none⟩) : ∀ (j : Nat) (u : Value), (cellsS l)[j]? = some u → w.cell? ⟨b, off + j, none⟩ = some u := fun j u hj => by
  have hjl := (List.getElem?_eq_some_iff.1 hj).1
  rw [cellsS_len] at hjl
  obtain ⟨b', o', e, h1, h2⟩ := h (j / 2) (by omega)
  rw [hT] at e
  injection e with e
  injection e with e1 e2
  subst e1 e2
  obtain ⟨g1, g2⟩ := cellsS_get l (j / 2) (by omega)
  rcases Nat.mod_two_eq_zero_or_one j with hm | hm
  · have e : j / 2 * 2 = j := by omega
    rw [e] at g1 h1
    rw [hj] at g1
    rw [h1, g1]
  · have e : j / 2 * 2 + 1 = j := by omega
    rw [e] at g2
    rw [Nat.add_assoc, e] at h2
    rw [hj] at g2
    rw [h2, g2]
theorem cellsS_one (l : List (Int × Int)) : ∀ u ∈ cellsS l, u.oneCell' = true := fun u hu => by
  unfold cellsS encS at hu
  obtain ⟨x, _, hx⟩ := List.mem_flatMap.1 hu
  simp at hx
  rcases hx with rfl | rfl <;> rfl
set_option maxHeartbeats 2000000 in
set_option maxRecDepth 8000 in
theorem clone_ok (l : List (Int × Int)) (a : Option Addr) (n c : Nat) (hn : l.length = n) (hn2 : n ≤ 200) (w : World) (h : SpansAt w a l) : Calls Tryz.prog 49 #[.slice a n c] w fun e w' => ∃ v, e = .returned v ∧ OwnsS w.heap.size v l w' ∧ Below w.heap.size w w' := by
  obtain ⟨i0, hi0, hz0, hz1, hz2⟩ := info_parts info_sp
  have q22 : ∀ (w : World) (a : Option Addr) (n c n' c' : Nat), (binOp .eql 50 (.slice a n c) (.slice none n' c')).run Tryz.prog w = .ok (.bool a.isNone) w := fun w a n c n' c' => Lib.run_eql_slice_nil w _ _ a n c n' c' Tryz.underlying50
  cases a with
  | none =>
    obtain rfl : l = [] := by
      cases l with
      | nil => rfl
      | cons x l => obtain ⟨b, off, e, _⟩ := h 0 (by simp); cases e
    have HE : Hid (OwnsS w.heap.size (.slice none 0 0) [] w) := Lib.hid (World.ownsRow_nil _ _ _ _)
    clear h hn
    go_enter Tryz.func49, Tryz.ntmps49
    go_wp2_with fail
    go_ret
    exact ⟨_, rfl, HE.out, Below.refl _ _⟩
  | some ad =>
    have HN := Lib.hid hn
    have HSP : Hid (0 < n → ∃ b off, ad = ⟨b, off, none⟩ ∧ ∀ (j : Nat) (u : Value), (cellsS l)[j]? = some u → w.cell? ⟨b, off + j, none⟩ = some u) := Lib.hid (fun h0 => by
      obtain ⟨b, off, e, _⟩ := h 0 (by omega)
      injection e with e
      subst e
      exact ⟨b, off, rfl, cellsS_at h rfl⟩)
    clear h hn
    have k1 : n ≤ maxLen := by unfold maxLen; omega
    have k2 : n * 16 ≤ 140737488355328 := by omega
    go_enter Tryz.func49, Tryz.ntmps49
    go_wp2_with (at_builtin; refine wpList_append_own _ rfl _ _ 50 rfl w.heap.size 66 i0 (.agg #[.int .i64 0, .int .i64 0]) 2 16 Tryz.underlying50 hi0 hz0 hz1 hz2 rfl (by decide) _ _ _ rfl (World.ownsRow_made w #[] 0 (Nat.le_refl _) (Nat.zero_le _) rfl) ad n c (cellsS l) rfl ?qc1 ?qc2 ?qc3 ?qc4 ?qc5 ?qc6 ?_)
    case qc1 => rw [cellsS_len, HN.out]
    case qc2 =>
      intro j u hj
      have hjl := (List.getElem?_eq_some_iff.1 hj).1
      rw [cellsS_len, HN.out] at hjl
      obtain ⟨b, off, rfl, hc⟩ := HSP.out (by omega)
      rw [Addr.add_lit]
      exact Lib.cell?_alloc_some _ (hc j u hj)
    case qc3 => exact cellsS_one l
    case qc4 => simpa using k1
    case qc5 => simpa using k2
    case qc6 => simp
    intro v' w1 hown hgrow hnil
    have HO : Hid (OwnsS w.heap.size v' l w1) := Lib.hid (by
      unfold OwnsS
      rw [HN.out]
      simpa using hown)
    have HB : Hid (Below w.heap.size w w1) := Lib.hid (((Below.refl _ w).alloc (Nat.le_refl _) _).grown hgrow (by simp) (by intro k hk; simp [Value.ownBlock] at hk; omega))
    clear hown hgrow hnil
    go_wp2_with fail
    go_ret
    exact ⟨v', rfl, HO.out, HB.out⟩
/-- A plan with other memory for its spans. -/
def Pl.withS (p : Pl) (a : Option Addr) (c : Nat) : Pl := ⟨p.k, p.x, p.z, p.e, a, p.n, c⟩
set_option maxHeartbeats 4000000 in
theorem blk14 {w : World} {b : Nat} {T : TypeId} {cs : Array Value} (h : Blk w b T cs) (hs : cs.size = 14) (v0 v1 v2 v3 v4 v5 v6 v7 v8 v9 v10 v11 v12 v13 : Value) :
    Blk ((((((((((((((w.setCell ⟨b, 0, none⟩ v0).setCell ⟨b, 1, none⟩ v1).setCell ⟨b, 2, none⟩ v2).setCell ⟨b, 3, none⟩ v3).setCell ⟨b, 4, none⟩ v4).setCell ⟨b, 5, none⟩ v5).setCell ⟨b, 6, none⟩ v6).setCell ⟨b, 7, none⟩ v7).setCell ⟨b, 8, none⟩ v8).setCell ⟨b, 9, none⟩ v9).setCell ⟨b, 10, none⟩ v10).setCell ⟨b, 11, none⟩ v11).setCell ⟨b, 12, none⟩ v12).setCell ⟨b, 13, none⟩ v13) b T #[v0, v1, v2, v3, v4, v5, v6, v7, v8, v9, v10, v11, v12, v13] := by
  obtain ⟨c0, c1, c2, c3, c4, c5, c6, c7, c8, c9, c10, c11, c12, c13, rfl⟩ : ∃ c0 c1 c2 c3 c4 c5 c6 c7 c8 c9 c10 c11 c12 c13, cs = #[c0, c1, c2, c3, c4, c5, c6, c7, c8, c9, c10, c11, c12, c13] := by
    obtain ⟨l⟩ := cs
    match l, hs with
    | [c0, c1, c2, c3, c4, c5, c6, c7, c8, c9, c10, c11, c12, c13], _ => exact ⟨c0, c1, c2, c3, c4, c5, c6, c7, c8, c9, c10, c11, c12, c13, rfl⟩
  have h' := (((((((((((((h.set_ 0 v0).set_ 1 v1).set_ 2 v2).set_ 3 v3).set_ 4 v4).set_ 5 v5).set_ 6 v6).set_ 7 v7).set_ 8 v8).set_ 9 v9).set_ 10 v10).set_ 11 v11).set_ 12 v12).set_ 13 v13
  simpa using h'
set_option maxRecDepth 8000 in
set_option maxHeartbeats 4000000 in
theorem plcopy_ok (p : Pl) (l : List (Int × Int)) (w : World) (hp : PIn w p l) (hn : p.n ≤ 200) : Calls Tryz.prog 32 #[.agg (plV p)] w fun e w' => ∃ a c, e = .returned (.agg (plV (p.withS a c))) ∧ OwnsS w.heap.size (.slice a p.n c) l w' ∧ Below w.heap.size w w' := by
  obtain ⟨W1, hW1⟩ : ∃ W1, W1 = (w.alloc (.cells (plV p) 52)).alloc (.cells #[.int .i64 0, .int .u64 0, .int .u64 0, .int .u64 0, .int .u64 0, .int .u64 0, .int .u64 0, .bool false, .bool false, .int .i64 0, .int .i64 0, .int .i64 0, .int .i64 0, .slice none 0 0] 52) := ⟨_, rfl⟩
  have hbx : Blk W1 w.heap.size 52 (plV p) := by rw [hW1]; exact (Blk.new w _ _).alloc _
  have hbz : Blk W1 (w.heap.size + 1) 52 #[.int .i64 0, .int .u64 0, .int .u64 0, .int .u64 0, .int .u64 0, .int .u64 0, .int .u64 0, .bool false, .bool false, .int .i64 0, .int .i64 0, .int .i64 0, .int .i64 0, .slice none 0 0] := by rw [hW1]; exact Blk.newAt (by simp)
  have hB1 : Below w.heap.size w W1 := by rw [hW1]; exact ((Below.refl _ w).alloc (Nat.le_refl _) _).alloc (by simp) _
  have CC := Lib.hid (clone_ok l p.a p.n p.c hp.n hn W1 (hp.at_.below hB1))
  have HW1 := Lib.hid hW1
  have hsz : W1.heap.size = w.heap.size + 2 := by rw [hW1]; simp
  have HSZ := Lib.hid hsz
  have HLN := Lib.hid hp.n
  rw [hW1] at CC
  have e0 : plV p = #[.int .i64 p.k, .int .u64 p.x.s, .int .u64 p.x.mi, .int .u64 p.x.h, .int .u64 p.x.d, .int .u64 p.x.mo, .int .u64 p.x.w, .bool p.x.ad, .bool p.x.aw, .int .i64 p.z, .int .i64 p.e.s, .int .i64 p.e.p, .int .i64 p.e.c, .slice p.a p.n p.c] := rfl
  rw [e0] at CC ⊢
  clear hW1 hp hn e0 hsz
  go_enter Tryz.func32, Tryz.ntmps32
  go_wp2_with fail
  refine (CC.out).mono ?_
  rintro e_ w2 ⟨v, rfl, ho, hb⟩
  have hb : Below W1.heap.size W1 w2 := by rw [HW1.out]; exact hb
  have ho2 : OwnsS W1.heap.size v l w2 := by rw [HW1.out]; exact ho
  clear ho
  have hx2 := hbx.below hb hbx.lt
  have hz2 := hbz.below hb hbz.lt
  obtain ⟨ad, cap, rfl, hs⟩ := ho2.shape
  rw [HLN.out] at *
  have HO := Lib.hid ho2
  have HB2 := Lib.hid (hB1.trans (hb.mono hB1.size))
  have HX2 := Lib.hid hx2
  have HZ2 := Lib.hid hz2
  have p0 : w2.cell? ⟨w.heap.size, 0, none⟩ = some (.int .i64 p.k) := hx2.cell 0
  have p1 : w2.cell? ⟨w.heap.size, 1, none⟩ = some (.int .u64 p.x.s) := hx2.cell 1
  have p2 : w2.cell? ⟨w.heap.size, 2, none⟩ = some (.int .u64 p.x.mi) := hx2.cell 2
  have p3 : w2.cell? ⟨w.heap.size, 3, none⟩ = some (.int .u64 p.x.h) := hx2.cell 3
  have p4 : w2.cell? ⟨w.heap.size, 4, none⟩ = some (.int .u64 p.x.d) := hx2.cell 4
  have p5 : w2.cell? ⟨w.heap.size, 5, none⟩ = some (.int .u64 p.x.mo) := hx2.cell 5
  have p6 : w2.cell? ⟨w.heap.size, 6, none⟩ = some (.int .u64 p.x.w) := hx2.cell 6
  have p7 : w2.cell? ⟨w.heap.size, 7, none⟩ = some (.bool p.x.ad) := hx2.cell 7
  have p8 : w2.cell? ⟨w.heap.size, 8, none⟩ = some (.bool p.x.aw) := hx2.cell 8
  have p9 : w2.cell? ⟨w.heap.size, 9, none⟩ = some (.int .i64 p.z) := hx2.cell 9
  have p10 : w2.cell? ⟨w.heap.size, 10, none⟩ = some (.int .i64 p.e.s) := hx2.cell 10
  have p11 : w2.cell? ⟨w.heap.size, 11, none⟩ = some (.int .i64 p.e.p) := hx2.cell 11
  have p12 : w2.cell? ⟨w.heap.size, 12, none⟩ = some (.int .i64 p.e.c) := hx2.cell 12
  have p13 : w2.cell? ⟨w.heap.size, 13, none⟩ = some (.slice p.a p.n p.c) := hx2.cell 13
  have q0 : w2.cell? ⟨w.heap.size + 1, 0, none⟩ = some (.int .i64 0) := hz2.cell 0
  have q1 : w2.cell? ⟨w.heap.size + 1, 1, none⟩ = some (.int .u64 0) := hz2.cell 1
  have q2 : w2.cell? ⟨w.heap.size + 1, 2, none⟩ = some (.int .u64 0) := hz2.cell 2
  have q3 : w2.cell? ⟨w.heap.size + 1, 3, none⟩ = some (.int .u64 0) := hz2.cell 3
  have q4 : w2.cell? ⟨w.heap.size + 1, 4, none⟩ = some (.int .u64 0) := hz2.cell 4
  have q5 : w2.cell? ⟨w.heap.size + 1, 5, none⟩ = some (.int .u64 0) := hz2.cell 5
  have q6 : w2.cell? ⟨w.heap.size + 1, 6, none⟩ = some (.int .u64 0) := hz2.cell 6
  have q7 : w2.cell? ⟨w.heap.size + 1, 7, none⟩ = some (.bool false) := hz2.cell 7
  have q8 : w2.cell? ⟨w.heap.size + 1, 8, none⟩ = some (.bool false) := hz2.cell 8
  have q9 : w2.cell? ⟨w.heap.size + 1, 9, none⟩ = some (.int .i64 0) := hz2.cell 9
  have q10 : w2.cell? ⟨w.heap.size + 1, 10, none⟩ = some (.int .i64 0) := hz2.cell 10
  have q11 : w2.cell? ⟨w.heap.size + 1, 11, none⟩ = some (.int .i64 0) := hz2.cell 11
  have q12 : w2.cell? ⟨w.heap.size + 1, 12, none⟩ = some (.int .i64 0) := hz2.cell 12
  have q13 : w2.cell? ⟨w.heap.size + 1, 13, none⟩ = some (.slice none 0 0) := hz2.cell 13
  have f0 : w2.frozen? ⟨w.heap.size + 1, 0, none⟩ = false := hz2.frozen 0
  have f1 : w2.frozen? ⟨w.heap.size + 1, 1, none⟩ = false := hz2.frozen 1
  have f2 : w2.frozen? ⟨w.heap.size + 1, 2, none⟩ = false := hz2.frozen 2
  have f3 : w2.frozen? ⟨w.heap.size + 1, 3, none⟩ = false := hz2.frozen 3
  have f4 : w2.frozen? ⟨w.heap.size + 1, 4, none⟩ = false := hz2.frozen 4
  have f5 : w2.frozen? ⟨w.heap.size + 1, 5, none⟩ = false := hz2.frozen 5
  have f6 : w2.frozen? ⟨w.heap.size + 1, 6, none⟩ = false := hz2.frozen 6
  have f7 : w2.frozen? ⟨w.heap.size + 1, 7, none⟩ = false := hz2.frozen 7
  have f8 : w2.frozen? ⟨w.heap.size + 1, 8, none⟩ = false := hz2.frozen 8
  have f9 : w2.frozen? ⟨w.heap.size + 1, 9, none⟩ = false := hz2.frozen 9
  have f10 : w2.frozen? ⟨w.heap.size + 1, 10, none⟩ = false := hz2.frozen 10
  have f11 : w2.frozen? ⟨w.heap.size + 1, 11, none⟩ = false := hz2.frozen 11
  have f12 : w2.frozen? ⟨w.heap.size + 1, 12, none⟩ = false := hz2.frozen 12
  have f13 : w2.frozen? ⟨w.heap.size + 1, 13, none⟩ = false := hz2.frozen 13
  have g13 : w2.frozen? ⟨w.heap.size, 13, none⟩ = false := hx2.frozen 13
  clear hb hbx hbz hB1 hx2 hz2 ho2 CC hs
  go_wp2_with fail
  have HZ3 := blk14 (HZ2.out.far (p := ⟨w.heap.size, 13, none⟩) (by simp) (.slice ad p.n cap)) rfl (.int .i64 p.k) (.int .u64 p.x.s) (.int .u64 p.x.mi) (.int .u64 p.x.h) (.int .u64 p.x.d) (.int .u64 p.x.mo) (.int .u64 p.x.w) (.bool p.x.ad) (.bool p.x.aw) (.int .i64 p.z) (.int .i64 p.e.s) (.int .i64 p.e.p) (.int .i64 p.e.c) (.slice ad p.n cap)
  refine bodyPost_ret (results_cell_row rfl _ _ (w.heap.size+1) _ _ (0,0) _ rfl HZ3 Tryz.underlying52 rfl (by kernel_rfl)) rfl ?_
  refine ⟨ad, cap, rfl, ?_, ?_⟩
  · refine OwnsS.mono (C := W1.heap.size) ?_ (by rw [HSZ.out]; omega)
    repeat refine OwnsS.far ?_ (by rw [HSZ.out]; omega) _
    exact HO.out
  · repeat refine Below.setCell ?_ (by first | exact Nat.le_refl _ | exact Nat.le_succ _) _
    exact HB2.out
structure CpI (p : Pl) (w : World) (v : Value) (ys : List (Int × Int)) (W : World) : Prop where
  bx : Blk W w.heap.size 52 (plV p)
  bz : Blk W (w.heap.size + 1) 52 #[.int .i64 0, .int .u64 0, .int .u64 0, .int .u64 0, .int .u64 0, .int .u64 0, .int .u64 0, .bool false, .bool false, .int .i64 0, .int .i64 0, .int .i64 0, .int .i64 0, .slice none 0 0]
  own : OwnsS (w.heap.size + 2) v ys W
  below : Below w.heap.size w W
  size : w.heap.size + 2 ≤ W.heap.size
theorem CpI.push {p : Pl} {w : World} {v v' : Value} {ys : List (Int × Int)} {s : Int × Int} {X Y : World} {tmp : Obj} (h : CpI p w v ys X)
    (hown' : Y.ownsRow (w.heap.size + 2) 66 2 v' (ys.length + 1) (cellsS ys ++ [.int .i64 s.1, .int .i64 s.2])) (hgrow : (X.alloc tmp).grownBy Y v.ownBlock) : CpI p w v' (ys ++ [s]) Y := by
  have hrow : X.ownsRow (w.heap.size + 2) 66 2 v ys.length (cellsS ys) := h.own
  have hs : X.heap.size + 1 ≤ Y.heap.size := by have := hgrow.size; simpa using this
  refine ⟨blk_app h.bx (by omega) hrow hgrow, blk_app h.bz (by omega) hrow hgrow, by unfold OwnsS; rw [cellsS_snoc]; simpa using hown', ?_, by have := h.size; omega⟩
  refine h.below.trans (((Below.refl w.heap.size X).alloc (by have := h.below.size; omega) tmp).grown hgrow (by simp; have := h.below.size; omega) fun j ej => ?_)
  rcases Nat.lt_or_ge j (w.heap.size + 2) with h' | h'
  · exact absurd ej.symm (own_ge hrow h')
  · omega
set_option maxRecDepth 8000 in
set_option maxHeartbeats 4000000 in
theorem rcopy_ok (p : Pl) (l : List (Int × Int)) (w : World) (hp : PIn w p l) (hn : p.n ≤ 200) : Calls Tryz.prog 37 #[.agg (plV p)] w fun e w' => ∃ a c, e = .returned (.agg (plV (p.withS a c))) ∧ OwnsS w.heap.size (.slice a p.n c) l w' ∧ Below w.heap.size w w' := by
  obtain ⟨i0, hi0, hz0, hz1, hz2⟩ := info_parts info_sp
  obtain ⟨W1, hW1⟩ : ∃ W1, W1 = (w.alloc (.cells (plV p) 52)).alloc (.cells #[.int .i64 0, .int .u64 0, .int .u64 0, .int .u64 0, .int .u64 0, .int .u64 0, .int .u64 0, .bool false, .bool false, .int .i64 0, .int .i64 0, .int .i64 0, .int .i64 0, .slice none 0 0] 52) := ⟨_, rfl⟩
  have H1 : Hid (CpI p w (.slice none 0 0) [] W1) := Lib.hid (by
    rw [hW1]
    exact ⟨(Blk.new w _ _).alloc _, Blk.newAt (by simp), ⟨rfl, .inl ⟨rfl, rfl⟩⟩, ((Below.refl _ w).alloc (Nat.le_refl _) _).alloc (by simp) _, by simp⟩)
  have HP := Lib.hid hp
  have HLN := Lib.hid hp.n
  have e0 : plV p = #[.int .i64 p.k, .int .u64 p.x.s, .int .u64 p.x.mi, .int .u64 p.x.h, .int .u64 p.x.d, .int .u64 p.x.mo, .int .u64 p.x.w, .bool p.x.ad, .bool p.x.aw, .int .i64 p.z, .int .i64 p.e.s, .int .i64 p.e.p, .int .i64 p.e.c, .slice p.a p.n p.c] := rfl
  rw [hW1] at H1
  rw [e0] at H1 ⊢
  clear hW1 hp e0
  go_enter Tryz.func37, Tryz.ntmps37
  go_wp2_with fail
  go_loopw [3, 4] (fun s3 s4 wr => ∃ k : Nat, s4 = .int .i64 k ∧ k ≤ p.n ∧ CpI p w s3 (l.take k) wr) (fun _ s4 _ => p.n - (intOf s4).toNat)
  case atStart => exact ⟨0, rfl, Nat.zero_le _, H1.out⟩
  case round =>
    clear H1
    obtain ⟨k, rfl, hk, hI⟩ := hrel
    have HI := Lib.hid hI
    have hrow : wr.ownsRow (w.heap.size + 2) 66 2 u3 (l.take k).length (cellsS (l.take k)) := hI.own
    have hlt : (l.take k).length = k := by rw [List.length_take, HLN.out]; omega
    rw [hlt] at hrow
    have hrv : (u3 = .slice none 0 0 ∧ k = 0) ∨ ∃ g cap, u3 = .slice (some ⟨g, 0, none⟩) k cap := hrow.2.imp id (fun ⟨g, cap, _, h, _⟩ => ⟨g, cap, h⟩)
    have HROW := Lib.hid hrow
    have HSP := Lib.hid (HP.out.at_.below hI.below)
    have p13 : wr.cell? ⟨w.heap.size, 13, none⟩ = some (.slice p.a p.n p.c) := hI.bx.cell 13
    have hlt3 := hI.size
    by_cases hkn : k < p.n
    · have hkl : k < l.length := by rw [HLN.out]; exact hkn
      obtain ⟨b, off, ha, h1, h2⟩ := HSP.out k hkl
      rw [ha] at p13
      have hbr := World.block_lt_of_cell? wr _ h1
      have hml1 : k + 1 ≤ maxLen := by unfold maxLen; omega
      have hml2 : (k + 1) * 16 ≤ 140737488355328 := by omega
      have hml3 : w.heap.size + 2 ≤ (wr.alloc (.cells #[.int .i64 l[k].1, .int .i64 l[k].2] 66)).heap.size := by simp; omega
      have HTK : Hid (l.take (k + 1) = l.take k ++ [l[k]]) := Lib.hid (by rw [List.take_add_one, List.getElem?_eq_getElem hkl]; rfl)
      have HLT := Lib.hid hlt
      have HLL := Lib.hid hkl
      generalize hs : l[k] = s at *
      have hw1 : IntKind.i64.wrap ((k : Int) + 1) = (k : Int) + 1 := IntWalk.i64_in _ (by omega)
      clear hI hrow hlt hkl hs
      rcases hrv with ⟨rfl, hl0⟩ | ⟨g, cap, rfl⟩
      · subst hl0
        simp only [Nat.zero_mul, Nat.add_zero] at h1 h2
        go_wp2_with (at_builtin; refine wpList_append_own _ rfl _ _ 50 rfl (w.heap.size + 2) 66 i0 (.agg #[.int .i64 0, .int .i64 0]) 2 16 Tryz.underlying50 hi0 hz0 hz1 hz2 rfl (by decide) _ _ _ rfl (own_alloc HROW.out _) ⟨wr.heap.size, 0, none⟩ 1 1 [.int .i64 s.1, .int .i64 s.2] rfl rfl (read2 wr _ _ _) (one2 _ _) hml1 hml2 hml3 ?_; intro v' w4 hown' hgrow _; have HQ := Lib.hid (HI.out.push (s := s) (by rw [HLT.out]; exact hown') hgrow); clear hown' hgrow)
        refine ⟨⟨1, rfl, by omega, by have h := HQ.out; rw [← HTK.out] at h; exact h⟩, ?_⟩
        show p.n - 1 < p.n - 0
        omega
      · go_wp2_with (at_builtin; refine wpList_append_own _ rfl _ _ 50 rfl (w.heap.size + 2) 66 i0 (.agg #[.int .i64 0, .int .i64 0]) 2 16 Tryz.underlying50 hi0 hz0 hz1 hz2 rfl (by decide) _ _ _ rfl (own_alloc HROW.out _) ⟨wr.heap.size, 0, none⟩ 1 1 [.int .i64 s.1, .int .i64 s.2] rfl rfl (read2 wr _ _ _) (one2 _ _) hml1 hml2 hml3 ?_; intro v' w4 hown' hgrow _; have HQ := Lib.hid (HI.out.push (s := s) (by rw [HLT.out]; exact hown') hgrow); clear hown' hgrow)
        refine ⟨⟨k + 1, rfl, by omega, by rw [HTK.out]; exact HQ.out⟩, ?_⟩
        show p.n - (k + 1) < p.n - k
        omega
    · obtain rfl : k = p.n := by omega
      have HO : Hid (OwnsS (w.heap.size + 2) u3 l wr) := Lib.hid (by have := hI.own; rwa [List.take_of_length_le (by rw [HLN.out]; exact Nat.le_refl _)] at this)
      have HB := Lib.hid hI.below
      have HZ2 := Lib.hid hI.bz
      have hx2 := hI.bx
      have hz2 := hI.bz
      obtain ⟨ad, cap, he, _⟩ := HO.out.shape
      rw [HLN.out] at he
      subst he
      have p0 : wr.cell? ⟨w.heap.size, 0, none⟩ = some (.int .i64 p.k) := hx2.cell 0
      have p1 : wr.cell? ⟨w.heap.size, 1, none⟩ = some (.int .u64 p.x.s) := hx2.cell 1
      have p2 : wr.cell? ⟨w.heap.size, 2, none⟩ = some (.int .u64 p.x.mi) := hx2.cell 2
      have p3 : wr.cell? ⟨w.heap.size, 3, none⟩ = some (.int .u64 p.x.h) := hx2.cell 3
      have p4 : wr.cell? ⟨w.heap.size, 4, none⟩ = some (.int .u64 p.x.d) := hx2.cell 4
      have p5 : wr.cell? ⟨w.heap.size, 5, none⟩ = some (.int .u64 p.x.mo) := hx2.cell 5
      have p6 : wr.cell? ⟨w.heap.size, 6, none⟩ = some (.int .u64 p.x.w) := hx2.cell 6
      have p7 : wr.cell? ⟨w.heap.size, 7, none⟩ = some (.bool p.x.ad) := hx2.cell 7
      have p8 : wr.cell? ⟨w.heap.size, 8, none⟩ = some (.bool p.x.aw) := hx2.cell 8
      have p9 : wr.cell? ⟨w.heap.size, 9, none⟩ = some (.int .i64 p.z) := hx2.cell 9
      have p10 : wr.cell? ⟨w.heap.size, 10, none⟩ = some (.int .i64 p.e.s) := hx2.cell 10
      have p11 : wr.cell? ⟨w.heap.size, 11, none⟩ = some (.int .i64 p.e.p) := hx2.cell 11
      have p12 : wr.cell? ⟨w.heap.size, 12, none⟩ = some (.int .i64 p.e.c) := hx2.cell 12
      have p13 : wr.cell? ⟨w.heap.size, 13, none⟩ = some (.slice p.a p.n p.c) := hx2.cell 13
      have q0 : wr.cell? ⟨w.heap.size + 1, 0, none⟩ = some (.int .i64 0) := hz2.cell 0
      have q1 : wr.cell? ⟨w.heap.size + 1, 1, none⟩ = some (.int .u64 0) := hz2.cell 1
      have q2 : wr.cell? ⟨w.heap.size + 1, 2, none⟩ = some (.int .u64 0) := hz2.cell 2
      have q3 : wr.cell? ⟨w.heap.size + 1, 3, none⟩ = some (.int .u64 0) := hz2.cell 3
      have q4 : wr.cell? ⟨w.heap.size + 1, 4, none⟩ = some (.int .u64 0) := hz2.cell 4
      have q5 : wr.cell? ⟨w.heap.size + 1, 5, none⟩ = some (.int .u64 0) := hz2.cell 5
      have q6 : wr.cell? ⟨w.heap.size + 1, 6, none⟩ = some (.int .u64 0) := hz2.cell 6
      have q7 : wr.cell? ⟨w.heap.size + 1, 7, none⟩ = some (.bool false) := hz2.cell 7
      have q8 : wr.cell? ⟨w.heap.size + 1, 8, none⟩ = some (.bool false) := hz2.cell 8
      have q9 : wr.cell? ⟨w.heap.size + 1, 9, none⟩ = some (.int .i64 0) := hz2.cell 9
      have q10 : wr.cell? ⟨w.heap.size + 1, 10, none⟩ = some (.int .i64 0) := hz2.cell 10
      have q11 : wr.cell? ⟨w.heap.size + 1, 11, none⟩ = some (.int .i64 0) := hz2.cell 11
      have q12 : wr.cell? ⟨w.heap.size + 1, 12, none⟩ = some (.int .i64 0) := hz2.cell 12
      have q13 : wr.cell? ⟨w.heap.size + 1, 13, none⟩ = some (.slice none 0 0) := hz2.cell 13
      have f0 : wr.frozen? ⟨w.heap.size + 1, 0, none⟩ = false := hz2.frozen 0
      have f1 : wr.frozen? ⟨w.heap.size + 1, 1, none⟩ = false := hz2.frozen 1
      have f2 : wr.frozen? ⟨w.heap.size + 1, 2, none⟩ = false := hz2.frozen 2
      have f3 : wr.frozen? ⟨w.heap.size + 1, 3, none⟩ = false := hz2.frozen 3
      have f4 : wr.frozen? ⟨w.heap.size + 1, 4, none⟩ = false := hz2.frozen 4
      have f5 : wr.frozen? ⟨w.heap.size + 1, 5, none⟩ = false := hz2.frozen 5
      have f6 : wr.frozen? ⟨w.heap.size + 1, 6, none⟩ = false := hz2.frozen 6
      have f7 : wr.frozen? ⟨w.heap.size + 1, 7, none⟩ = false := hz2.frozen 7
      have f8 : wr.frozen? ⟨w.heap.size + 1, 8, none⟩ = false := hz2.frozen 8
      have f9 : wr.frozen? ⟨w.heap.size + 1, 9, none⟩ = false := hz2.frozen 9
      have f10 : wr.frozen? ⟨w.heap.size + 1, 10, none⟩ = false := hz2.frozen 10
      have f11 : wr.frozen? ⟨w.heap.size + 1, 11, none⟩ = false := hz2.frozen 11
      have f12 : wr.frozen? ⟨w.heap.size + 1, 12, none⟩ = false := hz2.frozen 12
      have f13 : wr.frozen? ⟨w.heap.size + 1, 13, none⟩ = false := hz2.frozen 13
      have g13 : wr.frozen? ⟨w.heap.size, 13, none⟩ = false := hx2.frozen 13
      clear hI HI hrow HROW hrv hx2 hz2 HSP
      go_wp2_with fail
      have HZ3 := blk14 (HZ2.out.far (p := ⟨w.heap.size, 13, none⟩) (by simp) (.slice ad p.n cap)) rfl (.int .i64 p.k) (.int .u64 p.x.s) (.int .u64 p.x.mi) (.int .u64 p.x.h) (.int .u64 p.x.d) (.int .u64 p.x.mo) (.int .u64 p.x.w) (.bool p.x.ad) (.bool p.x.aw) (.int .i64 p.z) (.int .i64 p.e.s) (.int .i64 p.e.p) (.int .i64 p.e.c) (.slice ad p.n cap)
      refine bodyPost_ret (results_cell_row rfl _ _ (w.heap.size+1) _ _ (0,0) _ rfl HZ3 Tryz.underlying52 rfl (by kernel_rfl)) rfl ?_
      refine ⟨ad, cap, rfl, ?_, ?_⟩
      · refine OwnsS.mono (C := w.heap.size + 2) ?_ (by omega)
        repeat refine OwnsS.far ?_ (by omega) _
        exact HO.out
      · repeat refine Below.setCell ?_ (by first | exact Nat.le_refl _ | exact Nat.le_succ _) _
        exact HB.out
end Go.Proofs.YtihadbkjfocdoaaGreatDoor.BW
