/- The contract of bits.List. -/
import Derived.Test.YtcgnnmpgdnajnaaDoorBitsListI
import Derived.Maps.AppendAt
namespace Go.Proofs.YtcgnnmpgdnajnaaDoor.BW
open Go.RowKit BM RK

attribute [local go_sem] Oper.semAt_some

theorem all_seq (n s : Nat) (hs : s < 18446744073709551616) (Bn n₀ : Nat) (h0n : 0 < n₀) (hBn : n₀ ≤ Bn) (w : World) (hT : Tab w) (hbox : Boxed w Bn 22 (.int .u64 s)) :
    SeqOwn Fence.wide n Tryd.prog 41 #[.pointer (some ⟨Bn, 0, none⟩)] (fun x : Nat => #[Value.int .i64 x]) (· = Bn) (KeepsBox n₀ Bn) (fun ys => ys = mem s) (fun _ => True) (mem s).length w :=
  fun l J Jx W hW hJ _ hY h0 => all1_in n s hs l Bn n₀ h0n hBn J Jx W.heap.size hJ hY W (hT.below hW hT.size) ((hW.block Bn hbox.lt).trans hbox) h0

set_option maxHeartbeats 400000 in
theorem all_ok (s : Nat) (w : World) : Calls Tryd.prog 39 #[.int .u64 s] w fun e w' => e = .returned (.func (.func 41) #[] #[.pointer (some ⟨w.heap.size, 0, none⟩)]) ∧ w' = w.alloc (.cells #[.int .u64 s] 22) := by
  go_enter Tryd.func39, Tryd.ntmps39
  go_wp2
  go_ret
  exact ⟨rfl, rfl⟩

/-- What is said of the caller's cells between two rounds. -/
structure Mid (w : World) (s : Nat) (pre : List Nat) (W : World) : Prop where
  out : ∃ v, Boxed W w.heap.size 34 v ∧ OwnsI w.heap.size v pre W
  own : ∃ cs, W.heap[w.heap.size + 1]? = some (.cells cs 22 (0, 0))
  below : Below w.heap.size w W

theorem Mid.closed (w : World) (s B : Nat) (hB : w.heap.size + 2 ≤ B) : Closed (· = w.heap.size + 1) B (Mid w s) := by
  rintro pre X Y ⟨⟨v, h1, h2⟩, ⟨cs, h3⟩, h4⟩ hs
  refine ⟨⟨v, hs.same _ _ h1 (by omega) (fun _ => rfl), ?_⟩, hs.kind _ _ _ _ rfl h3, ?_⟩
  · refine ⟨h2.1, ?_⟩
    rcases h2.2 with h | ⟨g, cap, cur, rfl, hb, hg, rest⟩
    · exact .inl h
    · refine .inr ⟨g, cap, cur, rfl, hb, hs.same _ _ hg (fun e => ?_) (fun _ => rfl), rest⟩
      subst e
      rw [h3] at hg
      simp at hg
  · refine h4.trans ⟨hs.os, hs.tape, hs.output, hs.size, fun k hk => ?_⟩
    have hlt : k < X.heap.size := Nat.lt_of_lt_of_le hk (Nat.le_trans h4.size (Nat.le_refl _))
    have := hs.same k X.heap[k] (Array.getElem?_eq_getElem hlt) (by omega) (fun h => by omega)
    rw [this, Array.getElem?_eq_getElem hlt]

set_option maxRecDepth 10000 in
set_option maxHeartbeats 2000000 in
theorem list_ok (s : Nat) (hs : s < 18446744073709551616) (w : World) (hT : Tab w) :
    Calls Tryd.prog 23 #[.int .u64 s] w fun e w' => ∃ v, e = .returned v ∧ OwnsI w.heap.size v (mem s) w' ∧ Below w.heap.size w w' := by
  refine callsIn_wide (n := 3).1 ?_
  obtain ⟨i0, hi, hz0, hz1, hz2⟩ := info_parts info_int
  refine callsIn_of_wp_marks Tryd.func23 rfl trivial ?_ rfl
  simp only [Tryd.ntmps23, List.size_toArray, List.length_cons, List.length_nil, Nat.reduceAdd, Nat.reduceSub, Array.replicate_succ, Array.replicate_zero, List.push_toArray, List.append_toArray, List.nil_append, List.cons_append]
  gi_wp2_with fail
  refine ⟨trivial, (callsIn_wide.2 (all_ok s _)).mono ?_⟩
  rintro e w' ⟨rfl, rfl⟩
  gi_wp2_with fail
  have bO := Boxed.new w 34 (.slice none 0 0)
  have bN := Boxed.new (w.alloc (.cells #[.slice none 0 0] 34)) 22 (.int .u64 s)
  rw [World.size_alloc] at bN
  have hB0 : Below w.heap.size w ((w.alloc (.cells #[.slice none 0 0] 34)).alloc (.cells #[.int .u64 s] 22)) := ((Below.refl _ w).alloc (Nat.le_refl _) _).alloc (by simp) _
  have hT0 : Tab ((w.alloc (.cells #[.slice none 0 0] 34)).alloc (.cells #[.int .u64 s] 22)) := hT.below hB0 hT.size
  have hsz : ((w.alloc (.cells #[.slice none 0 0] 34)).alloc (.cells #[.int .u64 s] 22)).heap.size = w.heap.size + 2 := by simp
  refine wpIn_rangeFunc_seqOwn rfl (by decide) (gf := 41) (lb := #[.pointer (some ⟨w.heap.size + 1, 0, none⟩)]) rfl trivial (enters_of Tryd.func41 (by kernel_rfl) rfl)
    (all_seq (3 - 1) s hs (w.heap.size + 1) w.heap.size hT.size (by omega) _ hT0 bN) (fun k hk => by subst hk; rw [hsz]; omega)
    (fun h k => ⟨h.1.trans k.1, k.2.trans h.2⟩)
    (fun W l o o' hl hl2 hc => ⟨⟨rfl, rfl, rfl, by simp, fun k hk => World.putObj_heap_other (by rw [hsz] at hl; omega)⟩, World.putObj_heap_other (by rw [hsz] at hl; omega)⟩)
    (fun _ => rfl) (Mid w s) (fun _ _ _ => False) (Mid.closed w s _ (by rw [hsz]; omega)) (fun _ _ _ _ hf _ => hf)
    ⟨⟨_, bO.alloc _, World.ownsRow_nil _ _ _ _⟩, ⟨_, bN⟩, hB0⟩
    (fun x => { tmps := #[.int .u64 s, undef, .slice none 0 0, .pointer (some ⟨w.heap.size, 0, none⟩), .int .i64 (x : Nat), .int .u64 s, .func (.func 41) #[] #[.pointer (some ⟨w.heap.size + 1, 0, none⟩)], .int .i64 (x : Nat), undef, undef, undef, undef, undef], defers := [] }) ?assign ?body ?done ?stop
  case assign =>
    intro l x W K hK
    gi_wp2
    exact hK
  case body =>
    rintro l pre x W ⟨⟨v, hv, hrow⟩, ⟨cs, hown⟩, hB⟩ hlt
    have hc := hv.cell
    have hml := mem_le s
    gi_wp2_with (gi_at_builtin; refine wpListIn_append_own _ rfl _ _ 34 rfl w.heap.size 3 i0 (.int .i64 0) 1 8 Tryd.underlying34 hi hz0 hz1 hz2 rfl (by decide) _ _ _ rfl (World.ownsRow.alloc hrow _) ⟨W.heap.size, 0, none⟩ 1 1 [.int .i64 (x : Nat)] rfl rfl (cell_one_new _ _ _) (by simp [Value.oneCell']) (by unfold maxLen; omega) (by omega) (by have := hB.size; simp; omega) ?_; intro v' w1 hown' hgrow _; obtain ⟨g', cap', rfl⟩ := ownsRow_succ hown'; obtain ⟨hv1, hv2, hr2, hk2, hb2⟩ := hv.appended (by decide) hrow hB.size (Nat.le_refl _) hown' hgrow; have hc1 := hv1.cell; have hf1 := hv1.frozen)
    have hne : some (w.heap.size + 1) ≠ v.ownBlock := by
      rcases hrow.2 with ⟨rfl, _⟩ | ⟨g, cap, cur, rfl, _, hg, _⟩
      · simp [Value.ownBlock]
      · intro e
        obtain rfl : w.heap.size + 1 = g := by simpa [Value.ownBlock] using e
        rw [hown] at hg
        simp at hg
    have hbn : (w1.setCell ⟨w.heap.size, 0, none⟩ (.slice (some ⟨g', 0, none⟩) (pre.length + 1) cap')).heap[w.heap.size + 1]? = W.heap[w.heap.size + 1]? := by
      have hlt2 : w.heap.size + 1 < W.heap.size := (Array.getElem?_eq_some_iff.1 hown).1
      rw [Below.heap_setCell _ _ _ _ (by simp), hgrow.block _ (by simp; omega) hne, Below.heap_alloc _ _ _ hlt2]
    refine ⟨hk2.from _, ⟨hb2, hbn⟩, ⟨_, hv2, ?_⟩, ⟨cs, hbn.trans hown⟩, hB.trans hb2⟩
    unfold OwnsI
    simpa [cellI] using hr2
  case done =>
    rintro D ys W hD rfl ⟨⟨v, hv, hrow⟩, _, hB⟩ hK
    have hc := hv.cell
    gi_wp2
    refine ⟨by simp, .inl ⟨_, _, rfl, run_takeDeferred hK, ?_⟩⟩
    refine ⟨_, results_tmp rfl _ _ _, v, rfl, ownsRow_putObj hrow _ hK rfl, hB.trans ⟨rfl, rfl, rfl, by simp, fun k hk => World.putObj_heap_other (by rw [hsz] at hD; omega)⟩⟩
  case stop =>
    rintro D c pre W _ _ h _
    exact h.elim
end Go.Proofs.YtcgnnmpgdnajnaaDoor.BW
