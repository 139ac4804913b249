/- PlanKnown: its eleven plans, and rows of plans without content, as lists of plans in memory. -/
import Derived.Test.YtmdjfjdlehdhjaaGreatDoorPKnI
namespace Go.Proofs.YtmdjfjdlehdhjaaGreatDoor.BW
open Go.RowKit BM Go.Shelf MC RK
open BK hiding ret_bool ret_i64

theorem spans_of {w : World} {g : Nat} {l : List (Int × Int)} {cs : Array Value} (h : Blk w g 32 cs) (hc : ∀ k (hk : k < l.length), cs[k * 2]? = some (.int .i64 l[k].1) ∧ cs[k * 2 + 1]? = some (.int .i64 l[k].2)) : SpansAt w (some ⟨g, 0, none⟩) l := fun k hk => by
  obtain ⟨h1, h2⟩ := hc k hk
  refine ⟨g, 0, rfl, ?_, ?_⟩
  · rw [Nat.zero_add, h.cell]; exact h1
  · rw [Nat.zero_add, h.cell]; exact h2
theorem spans_one {w : World} {g : Nat} {f u : Int} (h : Blk w g 32 #[.int .i64 f, .int .i64 u]) : SpansAt w (some ⟨g, 0, none⟩) [(f, u)] :=
  spans_of h (fun k hk => by
    have : k = 0 := by simpa using hk
    subst this
    exact ⟨rfl, rfl⟩)
theorem spans_65 {w : World} {g : Nat} (h : Blk w g 32 (Array.replicate 130 (.int .i64 0))) : SpansAt w (some ⟨g, 0, none⟩) (List.replicate 65 (0, 0)) :=
  spans_of h (fun k hk => by
    rw [List.length_replicate] at hk
    rw [List.getElem_replicate, Array.getElem?_replicate, Array.getElem?_replicate, if_pos (by omega), if_pos (by omega)]
    exact ⟨rfl, rfl⟩)
theorem blk_ne {w : World} {g E : Nat} {T T' : TypeId} {cs cs' : Array Value} (h : Blk w g T cs) (h' : Blk w E T' cs') (hT : T ≠ T') : g ≠ E := by
  rintro rfl
  unfold Blk at h h'
  rw [h] at h'
  injection h' with h'
  injection h' with _ h1 _
  exact hT h1
/-- Due of daily and a plan that is refused. -/
theorem due_kn {W : World} {p : Pl} {l : List (Int × Int)} (hp : PArg W p l) (h16 : plE p l = 16) : Calls Tryz.prog 17 #[.slice (some ⟨W.heap.size, 0, none⟩) 2 2, .int .i64 (-1)] (W.alloc (.cells (plV pD ++ plV p) 29)) fun r w' => ∃ v, r = .returned (.tuple #[v, .int .i64 16]) ∧ Below W.heap.size W w' := by
  have hB : Below W.heap.size W (W.alloc (.cells (plV pD ++ plV p) 29)) := (Below.refl _ W).alloc (Nat.le_refl _) _
  have hp2 := hp.below hB
  have hbk := Blk.new W 29 (plV pD ++ plV p)
  refine (pldue_ok [(pD, []), (p, l)] (some ⟨W.heap.size, 0, none⟩) 2 2 rfl (by decide) (-1) _ (fun k hk => ?_)).mono ?_
  · refine ⟨W.heap.size, 0, rfl, fun i hi => ?_, ?_⟩
    · rw [hbk.cell, Nat.zero_add]
      have hk' : k = 0 ∨ k = 1 := by simp at hk; omega
      have h14 : (plV pD).size = 14 := rfl
      rcases hk' with rfl | rfl
      · rw [Nat.zero_mul, Nat.zero_add, Array.getElem?_append_left (by rw [h14]; exact hi)]; rfl
      · rw [Nat.one_mul, Array.getElem?_append_right (by rw [h14]; omega), h14, show 14 + i - 14 = i by omega]; rfl
    · have hk' : k = 0 ∨ k = 1 := by simp at hk; omega
      rcases hk' with rfl | rfl
      · exact argD hp2.sp hp2.tab
      · exact hp2
  · rintro e w' ⟨v, rfl, _, hb⟩
    exact ⟨v, by rw [kdue_bad h16], hB.trans (hb.mono hB.size)⟩
/-- A plan of the list: what its functions ask. -/
theorem pls_of {w : World} {E : Nat} {cs : Array Value} {L : List (Pl × List (Int × Int))} (hE : Blk w E 29 cs) (hc : cs.toList = L.flatMap (fun x => (plV x.1).toList)) (h : ∀ x ∈ L, PArg w x.1 x.2) : PlsAt w (some ⟨E, 0, none⟩) L := fun k hk => by
  refine ⟨E, 0, rfl, fun i hi => ?_, h _ (List.getElem_mem hk)⟩
  rw [Nat.zero_add, hE.cell, ← Array.getElem?_toList, hc]
  clear hc hE h cs
  induction L generalizing k with
  | nil => simp at hk
  | cons x L ih =>
    have h14 : (plV x.1).toList.length = 14 := rfl
    rw [List.flatMap_cons]
    cases k with
    | zero =>
      rw [Nat.zero_mul, Nat.zero_add, List.getElem?_append_left (by rw [h14]; exact hi)]
      show (plV x.1).toList[i]? = (plV x.1)[i]?
      exact Array.getElem?_toList
    | succ k =>
      rw [List.getElem?_append_right (by rw [h14]; omega), h14, show (k + 1) * 14 + i - 14 = k * 14 + i by omega]
      exact ih k (by simpa using hk)
theorem pls_zero {w : World} {E n : Nat} {cs : Array Value} (hE : Blk w E 29 cs) (hc : ∀ j, j < n * 14 → cs[j]? = (plV pZ)[j % 14]?) (h1 : SpTab w) (h2 : Tab w) : PlsAt w (some ⟨E, 0, none⟩) (List.replicate n (pZ, [])) := fun k hk => by
  rw [List.length_replicate] at hk
  simp only [List.getElem_replicate]
  refine ⟨E, 0, rfl, fun i hi => ?_, ⟨u64_zX, rfl, (show (0 : Nat) < 9223372036854775807 by decide), SpansAt.nil _ _, h1, h2⟩⟩
  rw [Nat.zero_add, hE.cell, hc _ (by omega), show (k * 14 + i) % 14 = i by omega]
theorem kn_pls {w : World} {E g2 g8 g9 g10 : Nat} {cs : Array Value} (hE : Blk w E 29 cs) (hc : cs.toList = (knL (some ⟨g2, 0, none⟩) (some ⟨g8, 0, none⟩) (some ⟨g9, 0, none⟩) (some ⟨g10, 0, none⟩)).flatMap (fun x => (plV x.1).toList))
    (b2 : Blk w g2 32 #[.int .i64 0, .int .i64 0]) (b8 : Blk w g8 32 #[.int .i64 2, .int .i64 1]) (b9 : Blk w g9 32 (Array.replicate 130 (.int .i64 0))) (b10 : Blk w g10 32 #[.int .i64 (-1), .int .i64 1])
    (h1 : SpTab w) (h2 : Tab w) : PlsAt w (some ⟨E, 0, none⟩) (knL (some ⟨g2, 0, none⟩) (some ⟨g8, 0, none⟩) (some ⟨g9, 0, none⟩) (some ⟨g10, 0, none⟩)) := by
  refine pls_of hE hc (fun x hx => ?_)
  unfold knL at hx
  simp only [List.mem_cons, List.not_mem_nil, or_false] at hx
  have z : (0 : Nat) < 9223372036854775807 := by decide
  rcases hx with rfl | rfl | rfl | rfl | rfl | rfl | rfl | rfl | rfl | rfl | rfl
  · exact ⟨u64_zX, rfl, z, SpansAt.nil _ _, h1, h2⟩
  · exact ⟨u64_zX, rfl, z, SpansAt.nil _ _, h1, h2⟩
  · exact ⟨u64_zX, rfl, (show (1 : Nat) < 9223372036854775807 by decide), spans_one b2, h1, h2⟩
  · exact ⟨u64_zX, rfl, z, SpansAt.nil _ _, h1, h2⟩
  · exact ⟨u64_zX, rfl, z, SpansAt.nil _ _, h1, h2⟩
  · exact ⟨u64_zX, rfl, z, SpansAt.nil _ _, h1, h2⟩
  · exact ⟨u64_dX, rfl, z, SpansAt.nil _ _, h1, h2⟩
  · exact ⟨u64_dX, rfl, z, SpansAt.nil _ _, h1, h2⟩
  · exact ⟨u64_zX, rfl, (show (1 : Nat) < 9223372036854775807 by decide), spans_one b8, h1, h2⟩
  · exact ⟨u64_zX, rfl, (show (65 : Nat) < 9223372036854775807 by decide), spans_65 b9, h1, h2⟩
  · exact ⟨u64_zX, rfl, (show (1 : Nat) < 9223372036854775807 by decide), spans_one b10, h1, h2⟩
theorem info_pl : (Tryz.prog.info? 29).map (fun i => (i.zero, i.size, decide (i.bytes ≤ 1000))) = some (some (.agg (plV pZ)), 14, true) := by kernel_rfl
theorem made_at (n j : Nat) (hj : j < n * 14) : (madeCells (Value.agg (plV pZ)).cells (n * 14))[j]? = (plV pZ)[j % 14]? := by
  have h14 : (Value.agg (plV pZ)).cells = plV pZ := by kernel_rfl
  rw [h14]
  have hs : (plV pZ).size = 14 := rfl
  have hl : j % 14 < (plV pZ).size := by rw [hs]; omega
  unfold madeCells
  simp only [Array.getElem?_map, hs]
  rw [Array.getElem?_range, if_pos hj, Option.map_some, Array.getElem?_eq_getElem hl, getElem!_pos (plV pZ) (j % 14) hl]
set_option maxRecDepth 10000 in
theorem mk_plans (n : Nat) (hn : n ≤ 65) (w : World) : (Instr.makeSlice 39 (.int .i64 n) (.int .i64 n)).run Tryz.prog w = .ok (.slice (some ⟨w.heap.size, 0, none⟩) n n) (w.alloc (.cells (madeCells (Value.agg (plV pZ)).cells (n * 14)) 29)) := by
  cases hi : Tryz.prog.info? 29 with
  | none => have h := info_pl; rw [hi] at h; cases h
  | some i0 =>
    have h := info_pl
    rw [hi, Option.map_some] at h
    injection h with h
    injection h with hz h
    injection h with hs hb
    have hb' : i0.bytes ≤ 1000 := of_decide_eq_true hb
    have hr := run_makeSlice (P := Tryz.prog) w 39 29 i0 (.agg (plV pZ)) Tryz.underlying39 hi hz .i64 .i64 (n : Int) (n : Int) (by omega) (by omega) (by rw [hs]; simp; omega) (by
      have h2 : i0.bytes * n ≤ 1000 * 65 := Nat.mul_le_mul hb' hn
      have h3 : ((i0.bytes * n : Nat) : Int) ≤ 65000 := by omega
      rw [Int.natCast_mul] at h3
      omega) (by omega)
    have e : ((n : Int).toNat) = n := Int.toNat_natCast n
    rw [e, hs] at hr
    exact hr
theorem mk_due (n : Nat) (hn : n ≤ 65) : ∃ cs : Array Value, (∀ W, (Instr.makeSlice 39 (.int .i64 n) (.int .i64 n)).run Tryz.prog W = .ok (.slice (some ⟨W.heap.size, 0, none⟩) n n) (W.alloc (.cells cs 29))) ∧
    ∀ W, SpTab W → Tab W → Calls Tryz.prog 17 #[.slice (some ⟨W.heap.size, 0, none⟩) n n, .int .i64 (-1)] (W.alloc (.cells cs 29)) fun r w' => ∃ v, r = .returned (.tuple #[v, .int .i64 (dueE (List.replicate n (pZ, [])) (-1))]) ∧ Below W.heap.size W w' := by
  refine ⟨madeCells (Value.agg (plV pZ)).cells (n * 14), fun W => mk_plans n hn W, fun W h1 h2 => ?_⟩
  have hB : Below W.heap.size W (W.alloc (.cells (madeCells (Value.agg (plV pZ)).cells (n * 14)) 29)) := (Below.refl _ W).alloc (Nat.le_refl _) _
  refine (pldue_ok (List.replicate n (pZ, [])) (some ⟨W.heap.size, 0, none⟩) n n (by simp) (by omega) (-1) _ (pls_zero (Blk.new W _ _) (fun j hj => made_at n j hj) (h1.below hB) (tab_below h2 hB (World.block_lt_of_cell? W _ (h2 0 (by decide)))))).mono ?_
  rintro e w' ⟨v, rfl, _, hb⟩
  exact ⟨v, rfl, hB.trans (hb.mono hB.size)⟩
end Go.Proofs.YtmdjfjdlehdhjaaGreatDoor.BW
