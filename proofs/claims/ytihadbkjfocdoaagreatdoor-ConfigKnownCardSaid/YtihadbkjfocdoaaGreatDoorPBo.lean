/- The sort of the borders of spans. Contract of blackout.borders. The iterator of the borders: its contract. A range over an iterator whose rounds lay the loop's variable in a new block. The iterator of the borders as such a sequence. Contract of blackout.join. Contracts of blackout.both, Union, Meet, Normal and Free, for valid spans. -/
import Derived.Shelf.SlSortCmp.NoneTotal
import Derived.Test.YtihadbkjfocdoaaGreatDoorPSp
import Derived.Test.YtihadbkjfocdoaaGreatDoorMList
import Derived.Deep.RegionHeld3
import Derived.Test.YtihadbkjfocdoaaGreatDoorMatV
import Derived.StillTailTactics
import Derived.Test.YtihadbkjfocdoaaGreatDoorMatX
import Derived.Laws.EntriesVeiled
import Derived.Test.YtihadbkjfocdoaaGreatDoorPFj
namespace Go.Proofs
def Tryz.sortBd_ren : Go.Shelf.Ren := ⟨fun | 6 => 132 | 15 => 145 | 14 => 144 | 28 => 158 | 29 => 159 | 20 => 150 | 21 => 151 | 22 => 152 | 23 => 153 | 24 => 154 | 25 => 155 | 26 => 156 | 27 => 157 | 46 => 163 | 47 => 164 | 48 => 165 | 49 => 166 | 50 => 167 | 57 => 172 | n => n, fun | 22 => 200 | 24 => 191 | 25 => 202 | 3 => 3 | 39 => 185 | 0 => 0 | 53 => 197 | 55 => 22 | 4 => 4 | 46 => 232 | 45 => 231 | 50 => 37 | 5 => 5 | 9 => 9 | 66 => 239 | 70 => 243 | 76 => 251 | 77 => 252 | n => n, fun | n => n⟩
theorem Tryz.sortBd : Go.Proofs.SlLaysF0.n6 Tryz.prog Tryz.sortBd_ren := {
  mixed := by kernel_rfl,
  f6 := ⟨Tryz.f132.name, by decide, Tryz.func132.trans (congrArg some (by kernel_rfl))⟩,
  f14 := ⟨Tryz.f144.name, by decide, Tryz.func144.trans (congrArg some (by kernel_rfl))⟩,
  f15 := Tryz.func145.trans (congrArg some (by kernel_rfl)),
  f20 := ⟨Tryz.f150.name, by decide, Tryz.func150.trans (congrArg some (by kernel_rfl))⟩,
  f21 := ⟨Tryz.f151.name, by decide, Tryz.func151.trans (congrArg some (by kernel_rfl))⟩,
  f22 := ⟨Tryz.f152.name, by decide, Tryz.func152.trans (congrArg some (by kernel_rfl))⟩,
  f23 := ⟨Tryz.f153.name, by decide, Tryz.func153.trans (congrArg some (by kernel_rfl))⟩,
  f24 := ⟨Tryz.f154.name, by decide, Tryz.func154.trans (congrArg some (by kernel_rfl))⟩,
  f25 := ⟨Tryz.f155.name, by decide, Tryz.func155.trans (congrArg some (by kernel_rfl))⟩,
  f26 := ⟨Tryz.f156.name, by decide, Tryz.func156.trans (congrArg some (by kernel_rfl))⟩,
  f27 := ⟨Tryz.f157.name, by decide, Tryz.func157.trans (congrArg some (by kernel_rfl))⟩,
  f28 := Tryz.func158.trans (congrArg some (by kernel_rfl)),
  f29 := Tryz.func159.trans (congrArg some (by kernel_rfl)),
  f46 := ⟨Tryz.f163.name, by decide, Tryz.func163.trans (congrArg some (by kernel_rfl))⟩,
  f47 := Tryz.func164.trans (congrArg some (by kernel_rfl)),
  f48 := Tryz.func165.trans (congrArg some (by kernel_rfl)),
  f49 := ⟨Tryz.f166.name, by decide, Tryz.func166.trans (congrArg some (by kernel_rfl))⟩,
  f50 := ⟨Tryz.f167.name, by decide, Tryz.func167.trans (congrArg some (by kernel_rfl))⟩,
  f57 := ⟨Tryz.f172.name, by decide, Tryz.func172.trans (congrArg some (by kernel_rfl))⟩,
  t0 := Tryz.underlying0,
  a0 := Tryz.isAgg0,
  z0 := Tryz.sizeOf0,
  v0 := Tryz.zeroValue0,
  t3 := Tryz.underlying3,
  a3 := Tryz.isAgg3,
  z3 := Tryz.sizeOf3,
  v3 := Tryz.zeroValue3,
  t4 := Tryz.underlying4,
  a4 := Tryz.isAgg4,
  z4 := Tryz.sizeOf4,
  v4 := Tryz.zeroValue4,
  t5 := Tryz.underlying5,
  a5 := Tryz.isAgg5,
  z5 := Tryz.sizeOf5,
  v5 := Tryz.zeroValue5,
  t9 := Tryz.underlying9,
  a9 := Tryz.isAgg9,
  z9 := Tryz.sizeOf9,
  v9 := Tryz.zeroValue9,
  t22 := Tryz.underlying200,
  a22 := Tryz.isAgg200,
  z22 := Tryz.sizeOf200,
  v22 := Tryz.zeroValue200,
  t25 := Tryz.underlying202,
  a25 := Tryz.isAgg202,
  z25 := Tryz.sizeOf202,
  v25 := Tryz.zeroValue202,
  t39 := Tryz.underlying185,
  a39 := Tryz.isAgg185,
  z39 := Tryz.sizeOf185,
  v39 := Tryz.zeroValue185,
  t45 := Tryz.underlying231,
  a45 := Tryz.isAgg231,
  z45 := Tryz.sizeOf231,
  v45 := Tryz.zeroValue231,
  t46 := Tryz.underlying232,
  a46 := Tryz.isAgg232,
  z46 := Tryz.sizeOf232,
  v46 := Tryz.zeroValue232,
  t50 := Tryz.underlying37,
  a50 := Tryz.isAgg37,
  z50 := Tryz.sizeOf37,
  v50 := Tryz.zeroValue37,
  t53 := Tryz.underlying197,
  a53 := Tryz.isAgg197,
  z53 := Tryz.sizeOf197,
  v53 := Tryz.zeroValue197,
  t55 := Tryz.underlying22,
  a55 := Tryz.isAgg22,
  z55 := Tryz.sizeOf22,
  v55 := Tryz.zeroValue22,
  t66 := Tryz.underlying239,
  a66 := Tryz.isAgg239,
  z66 := Tryz.sizeOf239,
  v66 := Tryz.zeroValue239,
  t70 := Tryz.underlying243,
  a70 := Tryz.isAgg243,
  z70 := Tryz.sizeOf243,
  v70 := Tryz.zeroValue243,
  t76 := Tryz.underlying251,
  a76 := Tryz.isAgg251,
  z76 := Tryz.sizeOf251,
  v76 := Tryz.zeroValue251,
  t77 := Tryz.underlying252,
  a77 := Tryz.isAgg252,
  z77 := Tryz.sizeOf252,
  v77 := Tryz.zeroValue252 }
end Go.Proofs
namespace Go.Proofs.YtihadbkjfocdoaaGreatDoor.BW
open Go.RowKit BM Go.Shelf MC Go.Sort
open BK hiding ret_bool ret_i64

/-- A border's cells. -/
def encB (x : Int × Int × Int) : List Value := [.int .i64 x.1, .int .i64 x.2.1, .int .i64 x.2.2]
def cellsB (L : List (Int × Int × Int)) : List Value := L.flatMap encB
def cfB (x y : Int × Int × Int) : Int := if x.1 < y.1 then -1 else if y.1 < x.1 then 1 else 0
theorem ltB (x y : Int × Int × Int) : ltOf cfB x y = decide (x.1 < y.1) := by
  unfold ltOf cfB
  by_cases h1 : x.1 < y.1
  · simp [h1]
  · by_cases h2 : y.1 < x.1 <;> simp [h1, h2]
theorem swoB : SWO (ltOf cfB) where
  irrefl x := by rw [ltB]; simp
  trans x y z h1 h2 := by rw [ltB] at *; simp at *; omega
  ntrans x y z h1 h2 := by rw [ltB] at *; simp at *; omega
set_option maxHeartbeats 1000000 in
theorem bd1_ok (x y : Int × Int × Int) (W : World) : Calls Tryz.prog 133 #[.agg #[.int .i64 x.1, .int .i64 x.2.1, .int .i64 x.2.2], .agg #[.int .i64 y.1, .int .i64 y.2.1, .int .i64 y.2.2]] W fun e w' => e = .returned (.int .i64 (cfB x y)) ∧ ∃ q os', w' = grow (W.drewN q) os' := by
  have HC : Hid (cfB x y = if x.1 < y.1 then -1 else if y.1 < x.1 then 1 else 0) := Lib.hid rfl
  generalize cfB x y = r at *
  obtain ⟨a, a1, a2⟩ := x
  obtain ⟨b, b1, b2⟩ := y
  simp only at *
  by_cases h1 : a < b
  · have d1 : decide (a < b) = true := decide_eq_true h1
    have HR : Hid (r = -1) := Lib.hid (by rw [HC.out, if_pos h1])
    clear HC h1
    go_enter Tryz.func133, Tryz.ntmps133
    go_wp2_with fail
    go_ret
    exact ⟨by rw [HR.out]; rfl, 0, _, by rw [alloc_eq_grow, alloc_eq_grow, grow_grow]; rfl⟩
  · have d1 : decide (a < b) = false := decide_eq_false h1
    by_cases h2 : b < a
    · have d2 : decide (b < a) = true := decide_eq_true h2
      have HR : Hid (r = 1) := Lib.hid (by rw [HC.out, if_neg h1, if_pos h2])
      clear HC h1 h2
      go_enter Tryz.func133, Tryz.ntmps133
      go_wp2_with fail
      go_ret
      exact ⟨by rw [HR.out]; rfl, 0, _, by rw [alloc_eq_grow, alloc_eq_grow, grow_grow]; rfl⟩
    · have d2 : decide (b < a) = false := decide_eq_false h2
      have HR : Hid (r = 0) := Lib.hid (by rw [HC.out, if_neg h1, if_neg h2])
      clear HC h1 h2
      go_enter Tryz.func133, Tryz.ntmps133
      go_wp2_with fail
      go_ret
      exact ⟨by rw [HR.out]; rfl, 0, _, by rw [alloc_eq_grow, alloc_eq_grow, grow_grow]; rfl⟩
theorem cmpB (blk off size : Nat) (w : World) : CmpLays Tryz.prog 133 #[] encB 3 cfB blk off size w :=
  fun _ _ _ _ x y => bd1_ok x y _
theorem cellsB_len (L : List (Int × Int × Int)) : (cellsB L).length = L.length * 3 := by
  induction L with
  | nil => rfl
  | cons x L ih => simp only [cellsB, List.flatMap_cons, List.length_append, List.length_cons, encB, List.length_nil] at *; omega
theorem cellsB_get : ∀ (L : List (Int × Int × Int)) (t : Nat), t < L.length * 3 → (cellsB L)[t]? = some (encB L[t / 3]!)[t % 3]!
  | [], t, h => by simp at h
  | x :: L, t, h => by
    rw [show cellsB (x :: L) = encB x ++ cellsB L from by simp [cellsB]]
    rcases Nat.lt_or_ge t 3 with h3 | h3
    · rw [List.getElem?_append_left (by simp [encB]; omega), Nat.div_eq_of_lt h3, Nat.mod_eq_of_lt h3]
      rcases (show t = 0 ∨ t = 1 ∨ t = 2 by omega) with rfl | rfl | rfl <;> rfl
    · obtain ⟨u, rfl⟩ : ∃ u, t = u + 3 := ⟨t - 3, by omega⟩
      rw [List.getElem?_append_right (by simp [encB]), show u + 3 - (encB x).length = u from by simp [encB], cellsB_get L u (by simp at h; omega), Nat.add_div_right _ (by decide), Nat.add_mod_right]
      rfl
theorem flatB (L : List (Int × Int × Int)) (t : Nat) (h : t < L.length * 3) : (cellsB L)[t]? = some (flatK encB 3 L.toArray)[t]! := by
  rw [cellsB_get L t h, get_flatK _ _ _ _ (by simpa using h)]
  simp
theorem own_sorted {w : World} {base g cap n : Nat} {e : TypeId} {L L' : List (Int × Int × Int)} (hL : L.length = n) (hL' : L'.length = n) (h : w.ownsRow base e 3 (.slice (some ⟨g, 0, none⟩) n cap) n (cellsB L)) :
    HoldsK encB 3 w g 0 L.toArray ∧ g < w.heap.size ∧ base ≤ g ∧ ∀ m os, (sortWorldK encB 3 w g 0 m L'.toArray os).ownsRow base e 3 (.slice (some ⟨g, 0, none⟩) n cap) n (cellsB L') ∧ w.grownBy (sortWorldK encB 3 w g 0 m L'.toArray os) (some g) := by
  obtain ⟨_, ⟨h1, _⟩ | ⟨g', cap', cur, h1, hb, hg, hn, hc, hs, ht⟩⟩ := h
  · cases h1
  obtain ⟨rfl, _, rfl⟩ : g = g' ∧ True ∧ cap = cap' := by simpa using h1
  have hlt : g < w.heap.size := (Array.getElem?_eq_some_iff.1 hg).1
  have hcur : ∀ j, j < n * 3 → cur[j]? = (cellsB L)[j]? := fun j hj => by
    rw [← ht, List.getElem?_take, if_pos hj, Array.getElem?_toList]
  refine ⟨fun j hj => ?_, hlt, hb, fun m os => ⟨⟨by rw [cellsB_len, hL'], .inr ⟨g, cap, putCells id 0 (flatK encB 3 L'.toArray) cur, rfl, hb, ?_, hn, hc, by simp [putCells, hs], ?_⟩⟩, ?_⟩⟩
  · have hj : j < L.length * 3 := by simpa using hj
    constructor
    · rw [cell_of_row w g (0 + j) cur e (0, 0) hg, Nat.zero_add, hcur j (by omega), flatB L j hj]; rfl
    · simp [World.frozen?, hg]
  · unfold sortWorldK
    rw [heap_grow_old _ _ (by simp [putRowK, putRow, mapBlock, Sort.ahead]; exact hlt)]
    simp [putRowK, putRow, mapBlock, Sort.ahead, Array.getElem?_modify, hg, onCells]
  · refine List.ext_getElem? fun j => ?_
    by_cases hj : j < n * 3
    · rw [List.getElem?_take, if_pos hj, flatB L' j (by omega), Array.getElem?_toList]
      have h2 : j < cur.size := by rw [hs]; exact Nat.lt_of_lt_of_le hj (Nat.mul_le_mul_right 3 hn)
      have h3 : j < L'.length * 3 := by omega
      simp [putCells, h2, h3]
    · rw [List.getElem?_take, if_neg hj, List.getElem?_eq_none (by rw [cellsB_len]; omega)]
  · refine ⟨rfl, rfl, rfl, size_sortWorldK_c .., fun k hk hne => ?_⟩
    have hne : ¬ g = k := fun e => hne (by rw [e])
    unfold sortWorldK
    rw [heap_grow_old _ _ (by simp [putRowK, putRow, mapBlock, Sort.ahead]; exact hk)]
    simp [putRowK, putRow, mapBlock, Sort.ahead, Array.getElem?_modify, hne]
/-- The sort, at every list. -/
theorem sortB_ok (base : Nat) (e : TypeId) (v : Value) (L : List (Int × Int × Int)) (hL : L.length < 4611686018427387904) (w : World) (h : w.ownsRow base e 3 v L.length (cellsB L)) :
    Calls Tryz.prog 132 #[v, .func (.func 133) #[] #[]] w fun r w' => r = .returned (.tuple #[]) ∧
      ∃ L', L'.Perm L ∧ L'.Pairwise (fun a b => a.1 ≤ b.1) ∧ w'.ownsRow base e 3 v L'.length (cellsB L') ∧ w.grownBy w' v.ownBlock := by
  rcases h.2 with ⟨rfl, h0⟩ | ⟨g, cap, cur, rfl, _⟩
  · have hn : L = [] := List.eq_nil_of_length_eq_zero h0
    subst hn
    exact (AnyF.slices_SortFunc_none Tryz.sortBd none 0 _ w).mono fun r w' ⟨h1, h2⟩ => ⟨h1, [], List.Perm.refl _, List.Pairwise.nil, by rw [h2]; exact h, by rw [h2]; exact only_refl _ _⟩
  · have eg : ∀ args w, (callFunc 133 args).run Tryz.prog w = .ok (.enter 133 args) w := enters_of Tryz.func133 (by kernel_rfl) rfl
    obtain ⟨hH, hlt, _, _⟩ := own_sorted (L' := L) rfl rfl h
    have hcon := AnyQ.slices_SortFunc Tryz.sortBd 3 Tryz.isAgg191 Tryz.sizeOf191 encB (fun _ => rfl) (fun x v hv => by simp [encB] at hv; rcases hv with rfl | rfl | rfl <;> rfl) cfB swoB 133 #[] g 0 cap L.toArray w eg (cmpB g 0 L.toArray.size w) hH hlt (by simpa using hL)
    refine hcon.mono ?_
    rintro r w' ⟨rfl, d', n, os, hp, hs, rfl⟩
    obtain ⟨p1, p2, p3⟩ := hp
    have hsz : d'.toList.length = L.length := by simpa using p1
    obtain ⟨_, _, _, hO⟩ := own_sorted (L' := d'.toList) rfl hsz h
    obtain ⟨o1, o2⟩ := hO n os
    rw [Array.toArray_toList] at o1 o2
    refine ⟨rfl, d'.toList, ?_, ?_, by rw [hsz]; exact o1, o2⟩
    · have h1 : (d'.extract 0 L.toArray.size).toList = d'.toList := by
        rw [show L.toArray.size = d'.size from p1.symm]; simp
      have h2 : (L.toArray.extract 0 L.toArray.size).toList = L := by simp
      rw [h1, h2] at p3
      exact p3
    · rw [List.pairwise_iff_getElem]
      intro i j hi hj hij
      have hi' : i < d'.size := by simpa using hi
      have hj' : j < d'.size := by simpa using hj
      have := hs i j (Nat.zero_le _) hij (by rw [← p1]; exact hj')
      rw [ltB, getElem!_pos d' i hi', getElem!_pos d' j hj'] at this
      have := of_decide_eq_false this
      simp only [Array.getElem_toList]
      omega
end Go.Proofs.YtihadbkjfocdoaaGreatDoor.BW
namespace Go.Proofs.YtihadbkjfocdoaaGreatDoor.BW
open Go.RowKit BM Go.Shelf MC
open BK hiding ret_bool ret_i64

theorem info_bd : (Tryz.prog.info? 191).map (fun i => (i.zero, i.size, i.bytes)) = some (some (.agg #[.int .i64 0, .int .i64 0, .int .i64 0]), 3, 24) := by kernel_rfl
theorem read6 (w : World) (a b c d e f : Int) (T : TypeId) : ∀ (j : Nat) (u : Value), [Value.int .i64 a, .int .i64 b, .int .i64 c, .int .i64 d, .int .i64 e, .int .i64 f][j]? = some u →
    (w.alloc (.cells #[.int .i64 a, .int .i64 b, .int .i64 c, .int .i64 d, .int .i64 e, .int .i64 f] T)).cell? ((⟨w.heap.size, 0, none⟩ : Addr).add j) = some u := by
  intro j u hj
  match j, hj with
  | 0, hj => simp at hj; subst hj; simp [Addr.add]
  | 1, hj => simp at hj; subst hj; simp [Addr.add]
  | 2, hj => simp at hj; subst hj; simp [Addr.add]
  | 3, hj => simp at hj; subst hj; simp [Addr.add]
  | 4, hj => simp at hj; subst hj; simp [Addr.add]
  | 5, hj => simp at hj; subst hj; simp [Addr.add]
theorem one6 (a b c d e f : Int) : ∀ u ∈ [Value.int .i64 a, .int .i64 b, .int .i64 c, .int .i64 d, .int .i64 e, .int .i64 f], u.oneCell' = true := by
  intro u hu; simp at hu; rcases hu with rfl | rfl | rfl | rfl | rfl | rfl <;> rfl
theorem idx_sl2 (a b : Option Addr) (n c m d : Nat) (W : World) : (Instr.index 178 (.agg #[.slice a n c, .slice b m d]) (.int .i64 0)).run Tryz.prog W = .ok (.slice a n c) W ∧ (Instr.index 178 (.agg #[.slice a n c, .slice b m d]) (.int .i64 1)).run Tryz.prog W = .ok (.slice b m d) W := by
  constructor <;> (unfold Instr.index; simp [go_sem])
/-- What is known of the borders so far. -/
structure BdI (w : World) (done : List (Int × Int × Int)) (W : World) : Prop where
  own : ∃ v, Blk W w.heap.size 200 #[v] ∧ W.ownsRow (w.heap.size + 1) 191 3 v done.length (cellsB done)
  below : Below w.heap.size w W
theorem flatMap_take {α β : Type} (f : α → List β) (l : List α) (k : Nat) (h : k < l.length) : (l.take (k + 1)).flatMap f = (l.take k).flatMap f ++ f l[k] := by
  rw [List.take_succ_eq_append_getElem h, List.flatMap_append]; simp
theorem two_blks (W : World) (t : TypeId) (c d : Array Value) : Blk ((W.alloc (.cells c t)).alloc (.cells d t)).drew W.heap.size t c ∧ Blk ((W.alloc (.cells c t)).alloc (.cells d t)).drew (W.heap.size + 1) t d ∧ Below W.heap.size W ((W.alloc (.cells c t)).alloc (.cells d t)).drew :=
  ⟨(Blk.new W t c).alloc _, Blk.newAt (by simp), below_drewN (((Below.refl _ W).alloc (Nat.le_refl _) _).alloc (by simp) _) 1⟩
theorem own_below {B : Nat} {w w' : World} {e : TypeId} {size n : Nat} {v : Value} {xs : List Value} (h : w.ownsRow B e size v n xs) (hb : Below w.heap.size w w') : w'.ownsRow B e size v n xs :=
  ⟨h.1, h.2.imp id fun ⟨g, cap, cur, h1, h2, h3, h4⟩ => ⟨g, cap, cur, h1, h2, (hb.block g (Array.getElem?_eq_some_iff.1 h3).1).trans h3, h4⟩⟩
theorem bd_len (a b : List (Int × Int)) (na nb k : Nat) (hna : a.length = na) (hnb : b.length = nb) (h1 : na ≤ 64) (h2 : nb ≤ 64) : (a.flatMap bdA).length + ((a.take k).flatMap bdA).length + ((b.take k).flatMap bdB).length ≤ 384 ∧ ((a.take k).flatMap bdA).length ≤ 128 ∧ ((b.take k).flatMap bdB).length ≤ 128 ∧ (a.flatMap bdA).length ≤ 128 := by
  have h3 : ∀ l : List (Int × Int), (l.flatMap bdA).length = 2 * l.length := fun l => by
    induction l with
    | nil => rfl
    | cons x l ih => rw [List.flatMap_cons, List.length_append, ih]; simp [bdA]; omega
  have h4 : ∀ l : List (Int × Int), (l.flatMap bdB).length = 2 * l.length := fun l => by
    induction l with
    | nil => rfl
    | cons x l ih => rw [List.flatMap_cons, List.length_append, ih]; simp [bdB]; omega
  simp only [h3, h4, List.length_take]
  omega
set_option maxRecDepth 8000 in
set_option maxHeartbeats 8000000 in
theorem borders_ok (a b : List (Int × Int)) (aa ab : Option Addr) (na ca nb cb : Nat) (hna : a.length = na) (hnb : b.length = nb) (ha9 : na ≤ 64) (hb9 : nb ≤ 64) (hva : ∀ u ∈ a, 0 ≤ u.1 ∧ u.1 ≤ u.2 ∧ u.2 ≤ 253402300799) (hvb : ∀ u ∈ b, 0 ≤ u.1 ∧ u.1 ≤ u.2 ∧ u.2 ≤ 253402300799) (w : World) (ha : SpansAt w aa a) (hb : SpansAt w ab b) :
    Calls Tryz.prog 128 #[.slice aa na ca, .slice ab nb cb] w fun r w' => ∃ L, r = .returned (.func (.func 134) #[] #[.pointer (some ⟨w.heap.size, 0, none⟩)]) ∧ L.Perm (bds a b) ∧ L.Pairwise (fun x y => x.1 ≤ y.1) ∧ BdI w L w' := by
  obtain ⟨i0, hi0, hz0, hz1, hz2⟩ := info_parts info_bd
  have HA := Lib.hid ha
  have HB := Lib.hid hb
  have HNA := Lib.hid hna
  have HNB := Lib.hid hnb
  have HVA := Lib.hid hva
  have HVB := Lib.hid hvb
  have HI0 : Hid (BdI w [] (w.alloc (.cells #[.slice none 0 0] 200))) := Lib.hid ⟨⟨_, Blk.new w _ _, World.ownsRow_nil _ _ _ _⟩, (Below.refl _ w).alloc (Nat.le_refl _) _⟩
  have IX0 := fun W => (idx_sl2 aa ab na ca nb cb W).1
  have IX1 := fun W => (idx_sl2 aa ab na ca nb cb W).2
  clear ha hb hna hnb hva hvb
  go_enter Tryz.func128, Tryz.ntmps128
  go_wp2_with fail
  go_loopw [15] (fun s15 wr => ∃ i : Nat, i ≤ 2 ∧ s15 = .int .i64 i ∧ BdI w (if i = 0 then [] else if i = 1 then a.flatMap bdA else bds a b) wr) (fun s15 _ => 2 - intM s15)
  case atStart => exact ⟨0, by omega, rfl, HI0.out⟩
  case round =>
    obtain ⟨i, hi, rfl, hI⟩ := hrel
    rcases (show i = 0 ∨ i = 1 ∨ i = 2 by omega) with rfl | rfl | rfl
    · have HI := Lib.hid hI
      clear hI
      go_wp2_with fail
      go_loopw [21] (fun s21 wr => ∃ k : Nat, k ≤ na ∧ s21 = .int .i64 k ∧ BdI w ((a.take k).flatMap bdA) wr) (fun s21 _ => na - intM s21)
      case atStart => exact ⟨0, Nat.zero_le _, rfl, HI.out⟩
      case round =>
        clear HI
        obtain ⟨k, hk, rfl, hI⟩ := hrel
        have HI := Lib.hid hI
        rcases Nat.lt_or_ge k na with hlt | hge
        · have hkl : k < a.length := by have := HNA.out; omega
          obtain ⟨b0, off, hab, h1, h2⟩ := HA.out k hkl
          subst hab
          have h1 := (hI.below.cell (p := ⟨b0, off + k * 2, none⟩) (World.block_lt_of_cell? w _ h1)).trans h1
          have h2 := (hI.below.cell (p := ⟨b0, off + k * 2 + 1, none⟩) (World.block_lt_of_cell? w _ h2)).trans h2
          obtain ⟨v, hv, hrow⟩ := hI.own
          have HVK := Lib.hid (HVA.out a[k] (List.getElem_mem hkl))
          have HT : Hid (((a.take (k + 1)).flatMap bdA) = ((a.take k).flatMap bdA) ++ [(a[k].1, 1, 0), (a[k].2 + 1, -1, 0)]) := Lib.hid (by rw [flatMap_take bdA a k hkl]; rfl)
          have HLN : Hid (((a.take k).flatMap bdA).length ≤ 256) := Lib.hid (by have := bd_len a b na nb k HNA.out HNB.out ha9 hb9; (try simp only [List.length_append]); omega)
          generalize a[k].1 = f at *
          generalize a[k].2 = u at *
          have hw : IntKind.i64.wrap (u + 1) = u + 1 := IntWalk.i64_in _ (by have := HVK.out; omega)
          generalize ((a.take k).flatMap bdA) = D0 at *
          obtain ⟨W8, hW8⟩ : ∃ W8, W8 = wr.alloc (.cells #[.int .i64 f, .int .i64 u] 66) := ⟨_, rfl⟩
          have hx8 : Blk W8 wr.heap.size 66 #[.int .i64 f, .int .i64 u] := by rw [hW8]; exact Blk.new wr _ _
          have hb8 : Below wr.heap.size wr W8 := by rw [hW8]; exact (Below.refl _ wr).alloc (Nat.le_refl _) _
          have hs8 : W8.heap.size = wr.heap.size + 1 := by rw [hW8]; simp
          have HW8 := Lib.hid hW8
          have HS8 := Lib.hid hs8
          have x0 : W8.cell? ⟨wr.heap.size, 0, none⟩ = some (.int .i64 f) := hx8.cell 0
          have x1 : W8.cell? ⟨wr.heap.size, 1, none⟩ = some (.int .i64 u) := hx8.cell 1
          clear hI hW8 hs8 hx8
          go_upto_region 8 with fail
          go_cut [10, 11] from 25 to 31 (fun s10 s11 wx => ∃ p q : Nat, (W8.heap.size ≤ p ∧ W8.heap.size ≤ q ∧ p ≠ q) ∧ s10 = .pointer (some ⟨p, 0, none⟩) ∧ s11 = .pointer (some ⟨q, 0, none⟩) ∧ Blk wx p 191 #[.int .i64 f, .int .i64 0, .int .i64 0] ∧ Blk wx q 191 #[.int .i64 (u + 1), .int .i64 0, .int .i64 0] ∧ Below W8.heap.size W8 wx)
          case first =>
            rw [← HW8.out]
            go_region_held3 (fun w' => w'.cell? ⟨wr.heap.size, 0, none⟩ = some (.int .i64 f) ∧ w'.cell? ⟨wr.heap.size, 1, none⟩ = some (.int .i64 u)) (go_keep) (fail)
            all_goals
              go_wp2_with fail
              go_meet
              first
                | exact ⟨_, _, ⟨Nat.le_refl _, Nat.le_succ _, by omega⟩, rfl, rfl, (two_blks ..).1, (two_blks ..).2.1, (two_blks ..).2.2⟩
                | exact ⟨_, _, ⟨Nat.le_succ _, Nat.le_refl _, by omega⟩, rfl, rfl, (two_blks ..).2.1, (two_blks ..).1, (two_blks ..).2.2⟩
          case rest =>
            obtain ⟨p, q, ⟨hp, hq, hpq⟩, rfl, rfl, hp9, hq9, hb9'⟩ := hcut
            have HS8 := HS8.out
            have hb9 : Below wr.heap.size wr wc := hb8.trans (hb9'.mono (by omega))
            have p0 : wc.cell? ⟨p, 0, none⟩ = some (.int .i64 f) := hp9.cell 0
            have p1 : wc.cell? ⟨p, 1, none⟩ = some (.int .i64 0) := hp9.cell 1
            have p2 : wc.cell? ⟨p, 2, none⟩ = some (.int .i64 0) := hp9.cell 2
            have q0 : wc.cell? ⟨q, 0, none⟩ = some (.int .i64 (u + 1)) := hq9.cell 0
            have q1 : wc.cell? ⟨q, 1, none⟩ = some (.int .i64 0) := hq9.cell 1
            have q2 : wc.cell? ⟨q, 2, none⟩ = some (.int .i64 0) := hq9.cell 2
            have pf1 : wc.frozen? ⟨p, 1, none⟩ = false := hp9.frozen 1
            have pf2 : wc.frozen? ⟨p, 2, none⟩ = false := hp9.frozen 2
            have qf1 : wc.frozen? ⟨q, 1, none⟩ = false := hq9.frozen 1
            have qf2 : wc.frozen? ⟨q, 2, none⟩ = false := hq9.frozen 2
            clear x0 x1 h1 h2 HW8
            go_upto_region 10 with fail
            obtain ⟨W10, hW10⟩ : ∃ W10, W10 = (wc.setCell ⟨p, 1, none⟩ (.int .i64 1)).setCell ⟨q, 1, none⟩ (.int .i64 (-1)) := ⟨_, rfl⟩
            have hb10 : Below wr.heap.size wr W10 := by rw [hW10]; exact (hb9.setCell (by simp; omega) _).setCell (by simp; omega) _
            have hp10 : Blk W10 p 191 #[.int .i64 f, .int .i64 1, .int .i64 0] := by rw [hW10]; exact (hp9.set_ 1 _).far (by simpa using hpq) _
            have hq10 : Blk W10 q 191 #[.int .i64 (u + 1), .int .i64 (-1), .int .i64 0] := by rw [hW10]; exact (hq9.far (by simpa using hpq.symm) _).set_ 1 _
            rw [← hW10]
            have HB10 := Lib.hid hb10
            clear p0 p1 p2 q0 q1 q2 pf1 pf2 qf1 qf2 hp9 hq9 hb9 hb9' hW10
            have p0 : W10.cell? ⟨p, 0, none⟩ = some (.int .i64 f) := hp10.cell 0
            have p1 : W10.cell? ⟨p, 1, none⟩ = some (.int .i64 1) := hp10.cell 1
            have p2 : W10.cell? ⟨p, 2, none⟩ = some (.int .i64 0) := hp10.cell 2
            have q0 : W10.cell? ⟨q, 0, none⟩ = some (.int .i64 (u + 1)) := hq10.cell 0
            have q1 : W10.cell? ⟨q, 1, none⟩ = some (.int .i64 (-1)) := hq10.cell 1
            have q2 : W10.cell? ⟨q, 2, none⟩ = some (.int .i64 0) := hq10.cell 2
            have hv10 := hv.below hb10 hv.lt
            have hrow10 := own_below hrow hb10
            have hc10 : W10.cell? ⟨w.heap.size, 0, none⟩ = some v := hv10.cell 0
            have hsz10 : w.heap.size + 1 ≤ W10.heap.size := hv10.lt
            have hsz11 : w.heap.size + 1 ≤ (W10.alloc (.cells #[.int .i64 f, .int .i64 1, .int .i64 0, .int .i64 (u + 1), .int .i64 (-1), .int .i64 0] 191)).heap.size := by simp; omega
            have hln1 : D0.length + 2 ≤ maxLen := by have := HLN.out; unfold maxLen; omega
            have hln2 : (D0.length + 2) * 24 ≤ 140737488355328 := by have := HLN.out; omega
            have hlow : w.heap.size < w.heap.size + 1 := Nat.lt_succ_self _
            have HBL := Lib.hid HI.out.below
            clear hp10 hq10 HI hv hrow hb8 hb10
            go_wp2_with (at_builtin; refine wpList_append_own _ rfl _ _ 200 rfl (w.heap.size + 1) 191 i0 (.agg #[.int .i64 0, .int .i64 0, .int .i64 0]) 3 24 Tryz.underlying200 hi0 hz0 hz1 hz2 rfl (by decide) _ _ _ rfl (World.ownsRow.alloc hrow10 _) ⟨W10.heap.size, 0, none⟩ 2 2 [.int .i64 f, .int .i64 1, .int .i64 0, .int .i64 (u + 1), .int .i64 (-1), .int .i64 0] rfl rfl (read6 _ _ _ _ _ _ _ _) (one6 _ _ _ _ _ _) hln1 hln2 hsz11 ?_; intro v' w1 hown' hgrow _; obtain ⟨g', cap', rfl⟩ := ownsRow_succ hown'; obtain ⟨hv1, hv2, hr2, hk2, hb2, hbl⟩ := appended_low hv10 hlow hrow10 hsz10 hown' hgrow; have hc1 := hv1.cell 0; have hf1 := hv1.frozen 0)
            refine ⟨⟨k + 1, by omega, by go_num, ⟨⟨_, hv2, ?_⟩, ?_⟩⟩, ?_⟩
            · rw [HT.out, show cellsB (D0 ++ [(f, 1, 0), (u + 1, (-1), 0)]) = cellsB D0 ++ [.int .i64 f, .int .i64 1, .int .i64 0, .int .i64 (u + 1), .int .i64 (-1), .int .i64 0] from by simp [cellsB, encB], List.length_append]
              exact hr2
            · exact HBL.out.trans ((HB10.out.mono HBL.out.size).trans (hbl w.heap.size (Nat.le_refl _)))
            · simp [intM]; omega
        · obtain rfl : na = k := by omega
          have HE : Hid (((a.take na).flatMap bdA) = a.flatMap bdA) := Lib.hid (by rw [List.take_of_length_le (by have := HNA.out; omega)])
          go_wp2_with fail
          refine ⟨⟨1, by omega, by go_num, ?_⟩, ?_⟩
          · have := HI.out
            rw [HE.out] at this
            exact this
          · simp [intM]
    · have HI := Lib.hid hI
      clear hI
      go_wp2_with fail
      go_loopw [21] (fun s21 wr => ∃ k : Nat, k ≤ nb ∧ s21 = .int .i64 k ∧ BdI w (a.flatMap bdA ++ (b.take k).flatMap bdB) wr) (fun s21 _ => nb - intM s21)
      case atStart => exact ⟨0, Nat.zero_le _, rfl, by rw [List.take_zero, List.flatMap_nil, List.append_nil]; exact HI.out⟩
      case round =>
        clear HI
        obtain ⟨k, hk, rfl, hI⟩ := hrel
        have HI := Lib.hid hI
        rcases Nat.lt_or_ge k nb with hlt | hge
        · have hkl : k < b.length := by have := HNB.out; omega
          obtain ⟨b0, off, hab, h1, h2⟩ := HB.out k hkl
          subst hab
          have h1 := (hI.below.cell (p := ⟨b0, off + k * 2, none⟩) (World.block_lt_of_cell? w _ h1)).trans h1
          have h2 := (hI.below.cell (p := ⟨b0, off + k * 2 + 1, none⟩) (World.block_lt_of_cell? w _ h2)).trans h2
          obtain ⟨v, hv, hrow⟩ := hI.own
          have HVK := Lib.hid (HVB.out b[k] (List.getElem_mem hkl))
          have HT : Hid ((a.flatMap bdA ++ (b.take (k + 1)).flatMap bdB) = (a.flatMap bdA ++ (b.take k).flatMap bdB) ++ [(b[k].1, 0, 1), (b[k].2 + 1, 0, -1)]) := Lib.hid (by rw [flatMap_take bdB b k hkl, List.append_assoc]; rfl)
          have HLN : Hid ((a.flatMap bdA ++ (b.take k).flatMap bdB).length ≤ 256) := Lib.hid (by have := bd_len a b na nb k HNA.out HNB.out ha9 hb9; (try simp only [List.length_append]); omega)
          generalize b[k].1 = f at *
          generalize b[k].2 = u at *
          have hw : IntKind.i64.wrap (u + 1) = u + 1 := IntWalk.i64_in _ (by have := HVK.out; omega)
          generalize (a.flatMap bdA ++ (b.take k).flatMap bdB) = D0 at *
          obtain ⟨W8, hW8⟩ : ∃ W8, W8 = wr.alloc (.cells #[.int .i64 f, .int .i64 u] 66) := ⟨_, rfl⟩
          have hx8 : Blk W8 wr.heap.size 66 #[.int .i64 f, .int .i64 u] := by rw [hW8]; exact Blk.new wr _ _
          have hb8 : Below wr.heap.size wr W8 := by rw [hW8]; exact (Below.refl _ wr).alloc (Nat.le_refl _) _
          have hs8 : W8.heap.size = wr.heap.size + 1 := by rw [hW8]; simp
          have HW8 := Lib.hid hW8
          have HS8 := Lib.hid hs8
          have x0 : W8.cell? ⟨wr.heap.size, 0, none⟩ = some (.int .i64 f) := hx8.cell 0
          have x1 : W8.cell? ⟨wr.heap.size, 1, none⟩ = some (.int .i64 u) := hx8.cell 1
          clear hI hW8 hs8 hx8
          go_upto_region 8 with fail
          go_cut [10, 11] from 25 to 31 (fun s10 s11 wx => ∃ p q : Nat, (W8.heap.size ≤ p ∧ W8.heap.size ≤ q ∧ p ≠ q) ∧ s10 = .pointer (some ⟨p, 0, none⟩) ∧ s11 = .pointer (some ⟨q, 0, none⟩) ∧ Blk wx p 191 #[.int .i64 f, .int .i64 0, .int .i64 0] ∧ Blk wx q 191 #[.int .i64 (u + 1), .int .i64 0, .int .i64 0] ∧ Below W8.heap.size W8 wx)
          case first =>
            rw [← HW8.out]
            go_region_held3 (fun w' => w'.cell? ⟨wr.heap.size, 0, none⟩ = some (.int .i64 f) ∧ w'.cell? ⟨wr.heap.size, 1, none⟩ = some (.int .i64 u)) (go_keep) (fail)
            all_goals
              go_wp2_with fail
              go_meet
              first
                | exact ⟨_, _, ⟨Nat.le_refl _, Nat.le_succ _, by omega⟩, rfl, rfl, (two_blks ..).1, (two_blks ..).2.1, (two_blks ..).2.2⟩
                | exact ⟨_, _, ⟨Nat.le_succ _, Nat.le_refl _, by omega⟩, rfl, rfl, (two_blks ..).2.1, (two_blks ..).1, (two_blks ..).2.2⟩
          case rest =>
            obtain ⟨p, q, ⟨hp, hq, hpq⟩, rfl, rfl, hp9, hq9, hb9'⟩ := hcut
            have HS8 := HS8.out
            have hb9 : Below wr.heap.size wr wc := hb8.trans (hb9'.mono (by omega))
            have p0 : wc.cell? ⟨p, 0, none⟩ = some (.int .i64 f) := hp9.cell 0
            have p1 : wc.cell? ⟨p, 1, none⟩ = some (.int .i64 0) := hp9.cell 1
            have p2 : wc.cell? ⟨p, 2, none⟩ = some (.int .i64 0) := hp9.cell 2
            have q0 : wc.cell? ⟨q, 0, none⟩ = some (.int .i64 (u + 1)) := hq9.cell 0
            have q1 : wc.cell? ⟨q, 1, none⟩ = some (.int .i64 0) := hq9.cell 1
            have q2 : wc.cell? ⟨q, 2, none⟩ = some (.int .i64 0) := hq9.cell 2
            have pf1 : wc.frozen? ⟨p, 1, none⟩ = false := hp9.frozen 1
            have pf2 : wc.frozen? ⟨p, 2, none⟩ = false := hp9.frozen 2
            have qf1 : wc.frozen? ⟨q, 1, none⟩ = false := hq9.frozen 1
            have qf2 : wc.frozen? ⟨q, 2, none⟩ = false := hq9.frozen 2
            clear x0 x1 h1 h2 HW8
            go_upto_region 10 with fail
            obtain ⟨W10, hW10⟩ : ∃ W10, W10 = (wc.setCell ⟨p, 2, none⟩ (.int .i64 1)).setCell ⟨q, 2, none⟩ (.int .i64 (-1)) := ⟨_, rfl⟩
            have hb10 : Below wr.heap.size wr W10 := by rw [hW10]; exact (hb9.setCell (by simp; omega) _).setCell (by simp; omega) _
            have hp10 : Blk W10 p 191 #[.int .i64 f, .int .i64 0, .int .i64 1] := by rw [hW10]; exact (hp9.set_ 2 _).far (by simpa using hpq) _
            have hq10 : Blk W10 q 191 #[.int .i64 (u + 1), .int .i64 0, .int .i64 (-1)] := by rw [hW10]; exact (hq9.far (by simpa using hpq.symm) _).set_ 2 _
            rw [← hW10]
            have HB10 := Lib.hid hb10
            clear p0 p1 p2 q0 q1 q2 pf1 pf2 qf1 qf2 hp9 hq9 hb9 hb9' hW10
            have p0 : W10.cell? ⟨p, 0, none⟩ = some (.int .i64 f) := hp10.cell 0
            have p1 : W10.cell? ⟨p, 1, none⟩ = some (.int .i64 0) := hp10.cell 1
            have p2 : W10.cell? ⟨p, 2, none⟩ = some (.int .i64 1) := hp10.cell 2
            have q0 : W10.cell? ⟨q, 0, none⟩ = some (.int .i64 (u + 1)) := hq10.cell 0
            have q1 : W10.cell? ⟨q, 1, none⟩ = some (.int .i64 0) := hq10.cell 1
            have q2 : W10.cell? ⟨q, 2, none⟩ = some (.int .i64 (-1)) := hq10.cell 2
            have hv10 := hv.below hb10 hv.lt
            have hrow10 := own_below hrow hb10
            have hc10 : W10.cell? ⟨w.heap.size, 0, none⟩ = some v := hv10.cell 0
            have hsz10 : w.heap.size + 1 ≤ W10.heap.size := hv10.lt
            have hsz11 : w.heap.size + 1 ≤ (W10.alloc (.cells #[.int .i64 f, .int .i64 0, .int .i64 1, .int .i64 (u + 1), .int .i64 0, .int .i64 (-1)] 191)).heap.size := by simp; omega
            have hln1 : D0.length + 2 ≤ maxLen := by have := HLN.out; unfold maxLen; omega
            have hln2 : (D0.length + 2) * 24 ≤ 140737488355328 := by have := HLN.out; omega
            have hlow : w.heap.size < w.heap.size + 1 := Nat.lt_succ_self _
            have HBL := Lib.hid HI.out.below
            clear hp10 hq10 HI hv hrow hb8 hb10
            go_wp2_with (at_builtin; refine wpList_append_own _ rfl _ _ 200 rfl (w.heap.size + 1) 191 i0 (.agg #[.int .i64 0, .int .i64 0, .int .i64 0]) 3 24 Tryz.underlying200 hi0 hz0 hz1 hz2 rfl (by decide) _ _ _ rfl (World.ownsRow.alloc hrow10 _) ⟨W10.heap.size, 0, none⟩ 2 2 [.int .i64 f, .int .i64 0, .int .i64 1, .int .i64 (u + 1), .int .i64 0, .int .i64 (-1)] rfl rfl (read6 _ _ _ _ _ _ _ _) (one6 _ _ _ _ _ _) hln1 hln2 hsz11 ?_; intro v' w1 hown' hgrow _; obtain ⟨g', cap', rfl⟩ := ownsRow_succ hown'; obtain ⟨hv1, hv2, hr2, hk2, hb2, hbl⟩ := appended_low hv10 hlow hrow10 hsz10 hown' hgrow; have hc1 := hv1.cell 0; have hf1 := hv1.frozen 0)
            refine ⟨⟨k + 1, by omega, by go_num, ⟨⟨_, hv2, ?_⟩, ?_⟩⟩, ?_⟩
            · rw [HT.out, show cellsB (D0 ++ [(f, 0, 1), (u + 1, 0, (-1))]) = cellsB D0 ++ [.int .i64 f, .int .i64 0, .int .i64 1, .int .i64 (u + 1), .int .i64 0, .int .i64 (-1)] from by simp [cellsB, encB], List.length_append]
              exact hr2
            · exact HBL.out.trans ((HB10.out.mono HBL.out.size).trans (hbl w.heap.size (Nat.le_refl _)))
            · simp [intM]; omega
        · obtain rfl : nb = k := by omega
          have HE : Hid ((a.flatMap bdA ++ (b.take nb).flatMap bdB) = bds a b) := Lib.hid (by rw [List.take_of_length_le (by have := HNB.out; omega)]; rfl)
          go_wp2_with fail
          refine ⟨⟨2, by omega, by go_num, ?_⟩, ?_⟩
          · have := HI.out
            rw [HE.out] at this
            exact this
          · simp [intM]
    · obtain ⟨v, hv, hrow⟩ := hI.own
      have HIB := Lib.hid hI.below
      have hLL : (bds a b).length < 4611686018427387904 := by
        have := bd_len a b na nb nb HNA.out HNB.out ha9 hb9
        rw [show b.take nb = b from List.take_of_length_le (by have := HNB.out; omega)] at this
        unfold bds
        rw [List.length_append]; omega
      have hrow : wr.ownsRow (w.heap.size + 1) 191 3 v (bds a b).length (cellsB (bds a b)) := hrow
      have CS := Lib.hid (sortB_ok _ _ v (bds a b) hLL wr hrow)
      have HV := Lib.hid hv
      have HW := Lib.hid hrow
      have hc : wr.cell? ⟨w.heap.size, 0, none⟩ = some v := hv.cell 0
      clear hI hLL hrow hv
      go_wp2_with fail
      refine (CS.out).mono ?_
      rintro e_ w2 ⟨rfl, L, hp, hs, ho, hg⟩
      have hne : some w.heap.size ≠ v.ownBlock := own_ge HW.out (Nat.lt_succ_self _)
      have HF : Hid (BdI w L w2) := Lib.hid ⟨⟨v, HV.out.grown hg hne, ho⟩, HIB.out.trans ⟨hg.os, hg.tape, hg.output, hg.size, fun k hk => hg.block k (by have := HV.out.lt; omega) (own_ge HW.out (by omega))⟩⟩
      have HP := Lib.hid hp
      have HS := Lib.hid hs
      clear hp hs ho hg hne hc CS
      go_wp2_with fail
      go_ret
      exact ⟨L, rfl, HP.out, HS.out, HF.out⟩
end Go.Proofs.YtihadbkjfocdoaaGreatDoor.BW
namespace Go.Proofs.YtihadbkjfocdoaaGreatDoor.BW
open Go.RowKit BM Go.Shelf MC RK
open BK hiding ret_bool ret_i64

attribute [local go_sem] Oper.semAt_some

/-- The borders M lie at ad, in block g. -/
def BdAt (W : World) (g : Nat) (ad : Option Addr) (M : List (Int × Int × Int)) : Prop := ∀ j (hj : j < M.length), ∃ off, ad = some ⟨g, off, none⟩ ∧ W.cell? ⟨g, off + j * 3, none⟩ = some (.int .i64 M[j].1) ∧ W.cell? ⟨g, off + j * 3 + 1, none⟩ = some (.int .i64 M[j].2.1) ∧ W.cell? ⟨g, off + j * 3 + 2, none⟩ = some (.int .i64 M[j].2.2)
theorem BdAt.nil (W : World) (g : Nat) (ad : Option Addr) : BdAt W g ad [] := fun _ hj => absurd hj (Nat.not_lt_zero _)
theorem BdAt.head {W : World} {g : Nat} {ad : Option Addr} {x : Int × Int × Int} {M : List (Int × Int × Int)} (h : BdAt W g ad (x :: M)) : ∃ off, ad = some ⟨g, off, none⟩ ∧ W.cell? ⟨g, off, none⟩ = some (.int .i64 x.1) ∧ W.cell? ⟨g, off + 1, none⟩ = some (.int .i64 x.2.1) ∧ W.cell? ⟨g, off + 2, none⟩ = some (.int .i64 x.2.2) ∧ BdAt W g (some ⟨g, off + 3, none⟩) M := by
  obtain ⟨off, e, h0, h1, h2⟩ := h 0 (Nat.succ_pos _)
  refine ⟨off, e, h0, h1, h2, fun j hj => ?_⟩
  obtain ⟨off', e', k0, k1, k2⟩ := h (j + 1) (Nat.succ_lt_succ hj)
  obtain rfl : off = off' := by rw [e] at e'; simpa using e'
  refine ⟨off + 3, rfl, ?_⟩
  rw [show off + 3 + j * 3 = off + (j + 1) * 3 from by omega]
  exact ⟨k0, k1, k2⟩
theorem BdAt.same {W W' : World} {g : Nat} {ad : Option Addr} {M : List (Int × Int × Int)} (h : BdAt W g ad M) (hg : M ≠ [] → W'.heap[g]? = W.heap[g]?) : BdAt W' g ad M := fun j hj => by
  obtain ⟨off, e, h0, h1, h2⟩ := h j hj
  have hg := hg (fun e => by rw [e] at hj; simp at hj)
  exact ⟨off, e, (World.cell?_of_block hg).trans h0, (World.cell?_of_block hg).trans h1, (World.cell?_of_block hg).trans h2⟩
/-- What the iterator has in its blocks. -/
structure BdS (pb g : Nat) (M : List (Int × Int × Int)) (W : World) : Prop where
  at_ : ∃ ad cap, Blk W pb 200 #[.slice ad M.length cap] ∧ M.length ≤ cap ∧ BdAt W g ad M
  ne : M ≠ [] → pb ≠ g ∧ g < W.heap.size
theorem Steps.setNew {own : Nat → Prop} {B : Nat} {X Y : World} (h : RK.Steps own B X Y) {b j : Nat} (hb : X.heap.size ≤ b) (v : Value) : RK.Steps own B X (Y.setCell ⟨b, j, none⟩ v) :=
  ⟨h.os, h.tape, h.output, by simpa [World.setCell] using h.size, fun k o hk hn hc => (Below.heap_setCell Y _ v k (by have := (Array.getElem?_eq_some_iff.1 hk).1; simp; omega)).trans (h.same k o hk hn hc),
    fun k cs t f ho hk => by obtain ⟨cs', h'⟩ := h.kind k cs t f ho hk; exact setCell_kind h'⟩
theorem Steps.alloc' {own : Nat → Prop} {B : Nat} {X Y : World} (h : RK.Steps own B X Y) (o : Obj) : RK.Steps own B X (Y.alloc o) := h.trans (RK.Steps.alloc _ _ _ _)
theorem Steps.setOwn {own : Nat → Prop} {B : Nat} {X Y : World} (h : RK.Steps own B X Y) {b j : Nat} (hb : own b) (v : Value) : RK.Steps own B X (Y.setCell ⟨b, j, none⟩ v) := h.trans (RK.Steps.setCell _ _ _ hb)
theorem Steps.drewN' {own : Nat → Prop} {B : Nat} {X Y : World} (h : RK.Steps own B X Y) (n : Nat) : RK.Steps own B X (Y.drewN n) := ⟨h.os, h.tape, h.output, h.size, h.same, h.kind⟩
def KB (pb g : Nat) (k : Nat) : Prop := k = pb ∨ k = g
/-- Behind 'all = all[1:]'. -/
theorem BdS.tail {pb g : Nat} {x : Int × Int × Int} {M : List (Int × Int × Int)} {off cap : Nat} {X : World} {ad : Option Addr} {cap' : Nat} (hv : Blk X pb 200 #[.slice (some ⟨g, off, none⟩) (M.length + 1) cap]) (hpg : pb ≠ g) (hg : g < X.heap.size) (hat : BdAt X g (some ⟨g, off + 3, none⟩) M) (_ : x = x)
    (h : M = [] ∨ ad = some ⟨g, off + 3, none⟩ ∧ M.length ≤ cap') (hc : M.length ≤ cap') : BdS pb g M (X.setCell ⟨pb, 0, none⟩ (.slice ad M.length cap')) := by
  refine ⟨⟨ad, cap', hv.set_ 0 _, hc, ?_⟩, fun _ => ⟨hpg, Nat.lt_of_lt_of_le hg (by simp [World.setCell])⟩⟩
  have h2 := hat.same (W' := X.setCell ⟨pb, 0, none⟩ (.slice ad M.length cap')) (fun _ => Below.heap_setCell X _ _ g (Ne.symm hpg))
  rcases h with rfl | ⟨rfl, _⟩
  · exact BdAt.nil _ _ _
  · exact h2
theorem BdS.alloc {pb g : Nat} {M : List (Int × Int × Int)} {X : World} (h : BdS pb g M X) (o : Obj) : BdS pb g M (X.alloc o) := by
  obtain ⟨⟨ad, cap, hv, hc, hat⟩, hn⟩ := h
  exact ⟨⟨ad, cap, hv.alloc o, hc, hat.same (fun e => Below.heap_alloc X o g (hn e).2)⟩, fun e => ⟨(hn e).1, by simp; have := (hn e).2; omega⟩⟩
theorem BdS.far {pb g : Nat} {M : List (Int × Int × Int)} {X : World} (h : BdS pb g M X) {b j : Nat} (h1 : pb ≠ b) (h2 : M ≠ [] → g ≠ b) (v : Value) : BdS pb g M (X.setCell ⟨b, j, none⟩ v) := by
  obtain ⟨⟨ad, cap, hv, hc, hat⟩, hn⟩ := h
  exact ⟨⟨ad, cap, hv.far (by simpa using h1) v, hc, hat.same (fun e => Below.heap_setCell X _ v g (by simpa using h2 e))⟩, fun e => ⟨(hn e).1, Nat.lt_of_lt_of_le (hn e).2 (by simp [World.setCell])⟩⟩
theorem BdS.drew {pb g : Nat} {M : List (Int × Int × Int)} {X : World} (h : BdS pb g M X) (n : Nat) : BdS pb g M (X.drewN n) := ⟨h.at_, h.ne⟩
theorem BdS.drew1 {pb g : Nat} {M : List (Int × Int × Int)} {X : World} (h : BdS pb g M X) : BdS pb g M X.drew := ⟨h.at_, h.ne⟩
theorem Steps.drew1 {own : Nat → Prop} {B : Nat} {X Y : World} (h : RK.Steps own B X Y) : RK.Steps own B X Y.drew := h.trans (RK.Steps.drew _ _ _)
theorem BdS.keep {pb g : Nat} {M : List (Int × Int × Int)} {X Y : World} (h : BdS pb g M X) (hk : KeepS (KB pb g) X Y) : BdS pb g M Y := by
  obtain ⟨⟨ad, cap, hv, hc, hat⟩, hn⟩ := h
  exact ⟨⟨ad, cap, hk.blk hv (.inl rfl), hc, hat.same (fun _ => hk g (.inr rfl))⟩, fun e => ⟨(hn e).1, by
    have h1 := hk g (.inr rfl)
    have h2 := (hn e).2
    rcases Nat.lt_or_ge g Y.heap.size with h3 | h3
    · exact h3
    · rw [Array.getElem?_eq_none h3, Array.getElem?_eq_getElem h2] at h1; cases h1⟩⟩
set_option maxRecDepth 8000 in
set_option maxHeartbeats 4000000 in
theorem bdseq_in (n : Nat) (L : List (Int × Int × Int)) (hT : totB L ≤ 1000) (pb g : Nat) (l : Nat) (J Jx : List (Int × Int × Int) → World → Prop) (W : World) (hS : BdS pb g L W) (hJ : Closed (fun k => k = pb) W.heap.size J)
    (hY : ∀ pre x W1, J pre W1 → (pre ++ [x]) <+: mrg L → W.heap.size ≤ W1.heap.size → YieldAt Fence.wide (n - 1) Tryz.prog l #[.agg #[.int .i64 x.1, .int .i64 x.2.1, .int .i64 x.2.2]] W1 fun e W' =>
      (e = .returned (.bool true) ∧ J (pre ++ [x]) W' ∧ KeepsFrom W.heap.size W1 W' ∧ KeepS (KB pb g) W1 W') ∨ (e = .returned (.bool false) ∧ Jx (pre ++ [x]) W'))
    (h0 : J [] W) :
    CallsIn Fence.wide n Tryz.prog 134 #[.func (.yield l) #[] #[], .pointer (some ⟨pb, 0, none⟩)] W fun e W' => (∃ v, e = .returned v) ∧
      (J (mrg L) W' ∨ (∃ pre, pre <+: mrg L ∧ Jx pre W')) := by
  have HS0 := Lib.hid hS
  have HJ0 := Lib.hid h0
  have HT := Lib.hid hT
  clear hS h0 hT
  refine callsIn_of_wp Tryz.func134 rfl trivial ?_ rfl
  simp only [Tryz.ntmps134, List.size_toArray, List.length_cons, List.length_nil, Nat.reduceAdd, Nat.reduceSub, Array.replicate_succ, Array.replicate_zero, List.push_toArray, List.append_toArray, List.nil_append, List.cons_append]
  refine wpIn_wide.2 ?_
  go_wp2_with fail
  go_loopg [] L.length (fun f wr => ∃ (M pre : List (Int × Int × Int)), M.length ≤ f ∧ totB M ≤ 1000 ∧ W.heap.size ≤ wr.heap.size ∧ pre ++ mrg M = mrg L ∧ J pre wr ∧ BdS pb g M wr)
  case atStart => exact ⟨L, [], Nat.le_refl _, HT.out, Nat.le_refl _, rfl, HJ0.out, HS0.out⟩
  case round =>
    clear HS0 HJ0 HT
    obtain ⟨M, pre, hf, hT, hsz, hpre, hj, hS⟩ := hrel
    have HP := Lib.hid hpre
    have HJ := Lib.hid hj
    have HS := Lib.hid hS
    have HT := Lib.hid hT
    obtain ⟨ad, cap, hv, hcap, hat⟩ := hS.at_
    have hc : wr.cell? ⟨pb, 0, none⟩ = some (.slice ad M.length cap) := hv.cell 0
    have hf0 : wr.frozen? ⟨pb, 0, none⟩ = false := hv.frozen 0
    clear hpre hj hT
    cases M with
    | nil =>
      have HE : Hid (J (mrg L) wr) := Lib.hid (by rw [← HP.out, show mrg [] = [] from rfl, List.append_nil]; exact HJ.out)
      go_wp2_with fail
      go_end0
      exact ⟨⟨_, rfl⟩, .inl HE.out⟩
    | cons x M =>
      obtain ⟨off, rfl, k0, k1, k2, hat2⟩ := hat.head
      obtain ⟨hpg, hg⟩ := HS.out.ne (by simp)
      have hpb := hv.lt
      have hpbn : ¬ pb = wr.heap.size := by omega
      have hgn : ¬ g = wr.heap.size := by omega
      have hpbn' : ¬ wr.heap.size = pb := by omega
      have hgn' : ¬ wr.heap.size = g := by omega
      rw [List.length_cons] at *
      have HV := Lib.hid hv
      have HA := Lib.hid hat2
      obtain ⟨M2, hM2⟩ : ∃ M2, M2 = M := ⟨_, rfl⟩
      obtain ⟨wo, hwo⟩ : ∃ wo, wo = wr := ⟨_, rfl⟩
      have HX : Hid (∀ ad m cap', m = M2.length → (M2 = [] ∨ ad = some ⟨g, off + 3, none⟩ ∧ M2.length ≤ cap') → M2.length ≤ cap' → ∀ W2, W2 = (wr.setCell ⟨pb, 0, none⟩ (.slice ad m cap')).alloc (.cells #[.int .i64 x.1, .int .i64 x.2.1, .int .i64 x.2.2] 191) →
          BdS pb g M2 W2 ∧ Blk W2 wo.heap.size 191 #[.int .i64 x.1, .int .i64 x.2.1, .int .i64 x.2.2] ∧ RK.Steps (fun k => k = pb) W.heap.size wo W2) := Lib.hid (by
        subst hM2 hwo
        rintro ad m cap' rfl h1 h2 W2 rfl
        exact ⟨(BdS.tail (x := x) HV.out hpg hg HA.out rfl h1 h2).alloc _, Blk.newAt (by simp [World.setCell]), Steps.alloc' (Steps.setOwn (RK.Steps.refl (fun k => k = pb) _ _) (b := pb) rfl _) _⟩)
      have HP2 : Hid (pre ++ mrg (x :: M2) = mrg L) := Lib.hid (by rw [hM2]; exact HP.out)
      have HT2 : Hid (totB (x :: M2) ≤ 1000) := Lib.hid (by rw [hM2]; exact HT.out)
      obtain ⟨G, rfl⟩ : ∃ G, gk = G + 1 := ⟨gk - 1, by omega⟩
      have HF2 : Hid (M2.length ≤ G) := Lib.hid (by rw [hM2]; omega)
      have HM2 := Lib.hid hM2
      have HWO := Lib.hid hwo
      have HJ2 : Hid (J pre wo) := Lib.hid (by rw [hwo]; exact HJ.out)
      have HW2 : Hid (W.heap.size ≤ wo.heap.size ∧ pb < wo.heap.size ∧ g < wo.heap.size ∧ pb ≠ g) := Lib.hid (by rw [hwo]; exact ⟨hsz, hpb, hg, hpg⟩)
      clear hM2 hwo HA hat2 hat hv HV HP HT HJ hsz
      by_cases hc1 : cap = 1
      all_goals
        first
          | (obtain rfl : M = [] := List.eq_nil_of_length_eq_zero (by subst hc1; omega)
             subst hc1
             go_wp2_with fail
             obtain ⟨H1, H2, H3⟩ := HX.out (some ⟨g, off, none⟩) 0 0 (by rw [HM2.out]; rfl) (.inl HM2.out) (by rw [HM2.out]; exact Nat.le_refl _) _ rfl)
          | (go_wp2_with fail
             obtain ⟨H1, H2, H3⟩ := HX.out (some ⟨g, off + 3, none⟩) M.length (cap - 1) (by rw [HM2.out]) (.inr ⟨rfl, by rw [HM2.out]; omega⟩) (by rw [HM2.out]; omega) _ rfl)
      all_goals
        generalize (World.alloc (World.setCell _ _ _) _) = W2 at *
        rw [← HWO.out]
        have H1 := Lib.hid H1
        have H2 := Lib.hid H2
        have H3 := Lib.hid H3
        clear HX HM2 hc k0 k1 k2 hpbn hgn hpbn' hgn' hf0 hpb hg hpg
        go_loopg [] M2.length (fun f wi => ∃ (o : Int × Int × Int) (N : List (Int × Int × Int)), N.length ≤ f ∧ N.length ≤ M2.length ∧ pre ++ mrg (o :: N) = mrg L ∧ totB (o :: N) ≤ 1000 ∧ BdS pb g N wi ∧ Blk wi wo.heap.size 191 #[.int .i64 o.1, .int .i64 o.2.1, .int .i64 o.2.2] ∧ RK.Steps (fun k => k = pb) W.heap.size wo wi)
        case atStart => exact ⟨x, M2, Nat.le_refl _, Nat.le_refl _, HP2.out, HT2.out, H1.out, H2.out, H3.out⟩
        case round =>
          clear H1 H2 H3 HP2 HT2 HWO HS hcap
          obtain ⟨o, N, hf2, hfm, hp, ht, hs, hb, hst⟩ := hrel
          have HP := Lib.hid hp
          have HT := Lib.hid ht
          have HS := Lib.hid hs
          have HB := Lib.hid hb
          have HST := Lib.hid hst
          obtain ⟨ad, cap2, hv, hcap, hat⟩ := hs.at_
          have hc : wr.cell? ⟨pb, 0, none⟩ = some (.slice ad N.length cap2) := hv.cell 0
          have hf0 : wr.frozen? ⟨pb, 0, none⟩ = false := hv.frozen 0
          have o0 : wr.cell? ⟨wo.heap.size, 0, none⟩ = some (.int .i64 o.1) := hb.cell 0
          have o1 : wr.cell? ⟨wo.heap.size, 1, none⟩ = some (.int .i64 o.2.1) := hb.cell 1
          have o2 : wr.cell? ⟨wo.heap.size, 2, none⟩ = some (.int .i64 o.2.2) := hb.cell 2
          have f1 : wr.frozen? ⟨wo.heap.size, 1, none⟩ = false := hb.frozen 1
          have f2 : wr.frozen? ⟨wo.heap.size, 2, none⟩ = false := hb.frozen 2
          clear hp hst hb
          cases N with
          | nil =>
            rw [List.length_nil] at *
            go_wp2_with fail
            go_quiet (fail)
            go_upto_region 7 with fail
            have HJ7 : J pre (wr.drewN nq) := hJ _ _ _ HJ2.out (Steps.drewN' HST.out nq)
            have HM7 := Lib.hid (show mrg [o] = o :: mrg [] from rfl)
            have hpre7 : (pre ++ [o]) <+: mrg L := by rw [← HP.out, HM7.out]; exact ⟨mrg [], by simp⟩
            have HE7 : Hid ((pre ++ [o]) ++ mrg [] = mrg L) := Lib.hid (by rw [← HP.out, HM7.out]; simp)
            have HS7 := Lib.hid (HS.out.drew nq)
            refine (wpIn_wide (n := 5)).1 ?_
            obtain ⟨fn, tmps, assign, body, hy7, hR⟩ := yieldAt_wide (k := 4) (hY pre o (wr.drewN nq) HJ7 hpre7 (Nat.le_trans HW2.out.1 HST.out.size))
            have HP7 := Lib.hid hpre7
            clear hpre7 HJ7
            gi_wp2_with fail
            refine hR.mono ?_
            rintro e W3 (⟨rfl, hJ3, hk3⟩ | ⟨rfl, hJx3⟩)
            · have HR3 := Lib.hid (And.intro hJ3 (HS7.out.keep hk3.2))
              have HZ3 : Hid (W.heap.size ≤ W3.heap.size) := Lib.hid (Nat.le_trans (Nat.le_trans HW2.out.1 HST.out.size) hk3.1.size)
              clear hJ3 hk3 hR hy7
              gi_wp2_with fail
              go_wp2_with fail
              go_roundg G
              case measure => omega
              case rel => exact ⟨[], pre ++ [o], Nat.zero_le _, Nat.zero_le _, HZ3.out, HE7.out, HR3.out.1, HR3.out.2⟩
            · gi_wp2_with fail
              go_wp2_with fail
              refine bodyPost_ret (results_none rfl _ _ _) rfl ?_
              exact ⟨⟨_, rfl⟩, .inr ⟨_, HP7.out, hJx3⟩⟩
          | cons y N =>
            obtain ⟨off2, rfl, k0, k1, k2, hat2⟩ := hat.head
            rw [List.length_cons] at *
            obtain ⟨G2, rfl⟩ : ∃ G2, gk = G2 + 1 := ⟨gk - 1, by omega⟩
            by_cases hy : y.1 = o.1
            · have hyb : (y.1 == o.1) = true := by rw [beq_iff_eq]; exact hy
              go_wp2_with fail
              go_quiet (fail)
              have hw1 : IntKind.i64.wrap (o.2.1 + y.2.1) = o.2.1 + y.2.1 := IntWalk.i64_in _ (by have := HT.out; simp only [totB] at this; omega)
              have hw2 : IntKind.i64.wrap (o.2.2 + y.2.2) = o.2.2 + y.2.2 := IntWalk.i64_in _ (by have := HT.out; simp only [totB] at this; omega)
              go_upto_region 4 with fail
              obtain ⟨wq, hwq⟩ : ∃ wq, wq = wr.drewN nq := ⟨_, rfl⟩
              have q0 : wq.cell? ⟨wo.heap.size, 1, none⟩ = some (.int .i64 o.2.1) := by rw [hwq]; exact o1
              have q1 : wq.frozen? ⟨wo.heap.size, 1, none⟩ = false := by rw [hwq]; exact f1
              have q2 : wq.cell? ⟨pb, 0, none⟩ = some (.slice (some ⟨g, off2, none⟩) (N.length + 1) cap2) := by rw [hwq]; exact hc
              have q3 : wq.cell? ⟨g, off2 + 1, none⟩ = some (.int .i64 y.2.1) := by rw [hwq]; exact k1
              rw [← hwq]
              have HWQ := Lib.hid hwq
              clear hwq
              go_still_tail 11, (by kernel_rfl)
              change wpList _ _ _ _ _ (World.drew _)
              go_upto_region 5 with fail
              have hne1 : pb ≠ wo.heap.size := Nat.ne_of_lt HW2.out.2.1
              have hne2 : g ≠ wo.heap.size := Nat.ne_of_lt HW2.out.2.2.1
              obtain ⟨ws, hws⟩ : ∃ ws, ws = (wq.setCell ⟨wo.heap.size, 1, none⟩ (.int .i64 (o.2.1 + y.2.1))).drew := ⟨_, rfl⟩
              have hss : BdS pb g (y :: N) ws := by rw [hws, HWQ.out]; exact ((HS.out.drew nq).far hne1 (fun _ => hne2) _).drew1
              have hbs : Blk ws wo.heap.size 191 #[.int .i64 o.1, .int .i64 (o.2.1 + y.2.1), .int .i64 o.2.2] := by rw [hws, HWQ.out]; exact ((HB.out.drewN nq).set_ 1 _).drew
              have hsts : RK.Steps (fun k => k = pb) W.heap.size wo ws := by rw [hws, HWQ.out]; exact Steps.drew1 (Steps.setNew (Steps.drewN' HST.out nq) (Nat.le_refl _) _)
              obtain ⟨ad3, cap3, hv3, hcap3, hat3⟩ := hss.at_
              obtain ⟨off3, rfl, s3, s4, s5, hat4⟩ := hat3.head
              have s0 : ws.cell? ⟨wo.heap.size, 2, none⟩ = some (.int .i64 o.2.2) := hbs.cell 2
              have s1 : ws.frozen? ⟨wo.heap.size, 2, none⟩ = false := hbs.frozen 2
              have s2 : ws.cell? ⟨pb, 0, none⟩ = some (.slice (some ⟨g, off3, none⟩) (N.length + 1) cap3) := hv3.cell 0
              rw [← hws]
              have HSS := Lib.hid hss
              have HBS := Lib.hid hbs
              have HSTS := Lib.hid hsts
              clear hws hss hbs hsts hv3 hcap3 hat3 hat4 HWQ q0 q1 q2 q3 hc hf0 o0 o1 o2 f1 f2 k0 k1 k2 hv hcap hat hat2 hs HS HB HST s3 s4
              go_still_tail 11, (by kernel_rfl)
              change wpList _ _ _ _ _ (World.drew _)
              go_upto_region 6 with fail
              obtain ⟨wt, hwt⟩ : ∃ wt, wt = (ws.setCell ⟨wo.heap.size, 2, none⟩ (.int .i64 (o.2.2 + y.2.2))).drew := ⟨_, rfl⟩
              have hss : BdS pb g (y :: N) wt := by rw [hwt]; exact (HSS.out.far hne1 (fun _ => hne2) _).drew1
              have hbs : Blk wt wo.heap.size 191 #[.int .i64 o.1, .int .i64 (o.2.1 + y.2.1), .int .i64 (o.2.2 + y.2.2)] := by rw [hwt]; exact (HBS.out.set_ 2 _).drew
              have hsts : RK.Steps (fun k => k = pb) W.heap.size wo wt := by rw [hwt]; exact Steps.drew1 (Steps.setNew HSTS.out (Nat.le_refl _) _)
              rw [← hwt]
              clear hwt HSS HBS HSTS s0 s1 s2 s5
              obtain ⟨ad3, cap3, hv3, hcap3, hat3⟩ := hss.at_
              obtain ⟨off4, rfl, s3, s4, s5, hat4⟩ := hat3.head
              have s2 : wt.cell? ⟨pb, 0, none⟩ = some (.slice (some ⟨g, off4, none⟩) (N.length + 1) cap3) := hv3.cell 0
              have s0 : wt.frozen? ⟨pb, 0, none⟩ = false := hv3.frozen 0
              have HV3 := Lib.hid hv3
              have HA4 := Lib.hid hat4
              have hgt : g < wt.heap.size := (hss.ne (by simp)).2
              have HBS := Lib.hid hbs
              have HSTS := Lib.hid hsts
              have HTN : Hid (totB ((o.1, o.2.1 + y.2.1, o.2.2 + y.2.2) :: N) ≤ 1000) := Lib.hid (by have := HT.out; simp only [totB] at this ⊢; omega)
              have HPN : Hid (pre ++ mrg ((o.1, o.2.1 + y.2.1, o.2.2 + y.2.2) :: N) = mrg L) := Lib.hid (by rw [← mrg_eq o y N hy]; exact HP.out)
              have hpg2 : pb ≠ g := HW2.out.2.2.2
              clear hss hbs hsts s3 s4 s5 hv3 hat3 hat4 hyb hy
              by_cases hc3 : cap3 = 1
              · obtain rfl : N = [] := List.eq_nil_of_length_eq_zero (by rw [hc3, List.length_cons] at hcap3; omega)
                subst hc3
                go_wp2_with fail
                go_roundg G2
                case measure => omega
                case rel => exact ⟨(o.1, o.2.1 + y.2.1, o.2.2 + y.2.2), [], Nat.zero_le _, Nat.zero_le _, HPN.out, HTN.out, BdS.tail (x := y) HV3.out hpg2 hgt HA4.out rfl (.inl rfl) (Nat.le_refl _), HBS.out.far (by simpa using Ne.symm hne1) _, Steps.setOwn HSTS.out rfl _⟩
              · rw [List.length_cons] at hcap3
                go_wp2_with fail
                go_roundg G2
                case measure => omega
                case rel => exact ⟨(o.1, o.2.1 + y.2.1, o.2.2 + y.2.2), N, by omega, by omega, HPN.out, HTN.out, BdS.tail (x := y) HV3.out hpg2 hgt HA4.out rfl (.inr ⟨rfl, by omega⟩) (by omega), HBS.out.far (by simpa using Ne.symm hne1) _, Steps.setOwn HSTS.out rfl _⟩
            · have hyb : (y.1 == o.1) = false := by rw [beq_eq_false_iff_ne]; exact hy
              go_wp2_with fail
              go_quiet (fail)
              go_upto_region 7 with fail
              have HJ7 : J pre (wr.drewN nq) := hJ _ _ _ HJ2.out (Steps.drewN' HST.out nq)
              have HM7 := Lib.hid (mrg_ne o y N hy)
              have hpre7 : (pre ++ [o]) <+: mrg L := by rw [← HP.out, HM7.out]; exact ⟨mrg (y :: N), by simp⟩
              have HE7 : Hid ((pre ++ [o]) ++ mrg (y :: N) = mrg L) := Lib.hid (by rw [← HP.out, HM7.out]; simp)
              have HS7 := Lib.hid (HS.out.drew nq)
              refine (wpIn_wide (n := 5)).1 ?_
              obtain ⟨fn, tmps, assign, body, hy7, hR⟩ := yieldAt_wide (k := 4) (hY pre o (wr.drewN nq) HJ7 hpre7 (Nat.le_trans HW2.out.1 HST.out.size))
              have HP7 := Lib.hid hpre7
              clear hpre7 HJ7
              gi_wp2_with fail
              refine hR.mono ?_
              rintro e W3 (⟨rfl, hJ3, hk3⟩ | ⟨rfl, hJx3⟩)
              · have HR3 := Lib.hid (And.intro hJ3 (HS7.out.keep hk3.2))
                have HZ3 : Hid (W.heap.size ≤ W3.heap.size) := Lib.hid (Nat.le_trans (Nat.le_trans HW2.out.1 HST.out.size) hk3.1.size)
                clear hJ3 hk3 hR hy7
                gi_wp2_with fail
                go_wp2_with fail
                go_roundg G
                case measure => omega
                case rel => exact ⟨(y :: N), pre ++ [o], by have := HF2.out; rw [List.length_cons]; omega, (by have := HT.out; simp only [totB] at this ⊢; omega), HZ3.out, HE7.out, HR3.out.1, HR3.out.2⟩
              · gi_wp2_with fail
                go_wp2_with fail
                refine bodyPost_ret (results_none rfl _ _ _) rfl ?_
                exact ⟨⟨_, rfl⟩, .inr ⟨_, HP7.out, hJx3⟩⟩
end Go.Proofs.YtihadbkjfocdoaaGreatDoor.BW
namespace Go.Proofs.YtihadbkjfocdoaaGreatDoor.RK
open Go Go.RowKit

variable {F : Fence} {n : Nat} {P : Program}

theorem wpIn_rangeFunc_seqU {α : Type} {g : Operand} {ps : Array Tmp} {assign body : Code} {Q : Exit → Act → World → Prop} {a : Act} {w : World}
    (hro : F.round = none) (h1 : 1 ≤ n) {gf : Nat} {lb : Array Value} (hg : a.eval g = .func (.func gf) #[] lb) (hFg : F.fn gf) (eg : ∀ args w, (callFunc gf args).run P w = .ok (.enter gf args) w)
    {encs : α → Array Value} {own : Nat → Prop} {Kp : World → World → Prop} {L0 : List α} {m : Nat} (hseq : SeqL F (n - 1) P gf lb encs own Kp L0 m w) (hown : ∀ k, own k → k < w.heap.size)
    (hKt : ∀ {A B C : World}, Kp A B → Kp B C → Kp A C) (hKb : ∀ (W : World) (o o' : Obj), W.heap[w.heap.size + 1]? = some o → o.isCells = false → Kp W (W.putObj (w.heap.size + 1) o'))
    (hKu : ∀ W V : World, w.heap.size + 2 + m ≤ W.heap.size → Below W.heap.size W V → Kp W V) (hps : ∀ x, (encs x).size = ps.size)
    (New : α → Nat → World → Prop) (hNew : ∀ x b (V : World) o, b ≠ w.heap.size + 1 → New x b V → New x b (V.putObj (w.heap.size + 1) o))
    (I : List α → World → Prop) (Ix : Code → List α → World → Prop) (hI : Closed own w.heap.size I) (hIx : ∀ c, Closed own w.heap.size (Ix c)) (h0 : I [] w) (a₁ : α → Nat → Act)
    (hassign : ∀ (l : Nat) (x : α) (W : World) (b : Nat) (K : Act → World → Prop), W.heap.size = b → (∀ V, Below W.heap.size W V → New x b V → K (a₁ x b) V) →
      assign.wpIn (F.inRound l) (n - 1 - 1) P (Exit.then K (fun _ _ _ => False)) { tmps := (ps.zip (encs x)).foldl (fun t (p, v) => t.setIfInBounds p v) a.tmps, defers := [] } W)
    (hbody : ∀ (l : Nat) (pre : List α) (x : α) (b : Nat) (W : World), I pre W → New x b W → (pre ++ [x]) <+: L0 → w.heap.size + 2 + m ≤ b → body.wpIn (F.inRound l) (n - 1 - 1) P (ownPostG w.heap.size Kp I Ix (pre ++ [x]) W) (a₁ x b) W)
    (hdone : ∀ (D : Nat) (W : World), w.heap.size ≤ D → I L0 W → W.heap[D]? = some (.deferred (some [])) → Q .normal { a with defers := { target := .collected D, args := #[] } :: a.defers } W)
    (hstop : ∀ (D : Nat) (c : Code) (pre : List α) (W : World), w.heap.size ≤ D → pre <+: L0 → Ix c pre W → W.heap[D]? = some (.deferred (some [])) → c.wpIn F n P Q { a with defers := { target := .collected D, args := #[] } :: a.defers } W) :
    (Code.rangeFunc g ps assign body).wpIn F n P Q a w := by
  refine wpIn_rangeFunc fun fn hfn => ?_
  rw [hro]
  -- the record in its states; the two new blocks
  let rec' : LoopState → Option Code → Obj := fun st pe => .loop { state := st, pending := pe, fn, tmps := a.tmps, params := ps, assign, body, defers := w.heap.size }
  let D := w.heap.size
  let L := w.heap.size + 1
  let W0 := (w.alloc (.deferred (some []))).alloc (rec' .ready none)
  have sz : W0.heap.size = w.heap.size + 2 := by simp [W0]
  have atL : W0.heap[L]? = some (rec' .ready none) := by
    have := World.alloc_heap_new (w.alloc (.deferred (some []))) (rec' .ready none)
    rw [World.size_alloc] at this; exact this
  have atD : W0.heap[D]? = some (.deferred (some [])) := (Below.heap_alloc _ _ _ (by simp [D])).trans (World.alloc_heap_new w _)
  have st0 : Steps own w.heap.size w W0 := (Steps.alloc own _ w _).trans (Steps.alloc own _ _ _)
  have bel : Below w.heap.size w W0 := ((Below.refl _ w).alloc (Nat.le_refl _) _).alloc (by simp) _
  have nD : ¬ own D := fun h => absurd (hown D h) (by simp [D])
  have nL : ¬ own L := fun h => absurd (hown L h) (by simp [L])
  -- the three facts that go with a state of the record
  let At : LoopState → Option Code → World → Prop := fun st pe W => W.heap[L]? = some (rec' st pe) ∧ W.heap[D]? = some (.deferred (some []))
  have atClosed : ∀ st pe X Y, At st pe X → Steps own W0.heap.size X Y → At st pe Y := fun st pe X Y h hs =>
    ⟨hs.same L _ h.1 nL (fun hle => absurd hle (by simp [sz, L])), hs.same D _ h.2 nD (fun hle => absurd hle (by simp [sz, D]))⟩
  have put : ∀ st pe st' pe' (W : World), At st pe W → At st' pe' (W.putObj L (rec' st' pe')) := fun st pe st' pe' W h =>
    ⟨World.putObj_heap_same (Array.getElem?_eq_some_iff.1 h.1).1, (World.putObj_heap_other (by simp [D, L])).trans h.2⟩
  have putS : ∀ st pe st' pe' (W : World), At st pe W → Steps own w.heap.size W (W.putObj L (rec' st' pe')) := fun st pe st' pe' W h =>
    Steps.putObj own _ (by simp [L]) h.1 rfl
  have putK : ∀ st pe st' pe' (W : World), At st pe W → Kp W (W.putObj L (rec' st' pe')) := fun st pe st' pe' W h => hKb W _ _ h.1 rfl
  refine ⟨L, [{ target := .collected D, args := #[] }], W0, { target := .fn (.func gf) lb, args := #[.func (.yield L) #[] #[]] }, W0, gf, #[.func (.yield L) #[] #[]] ++ lb, W0,
    run_enterLoop_outer _ _ _ _ _, by simp only [resolve, hg]; simp [go_sem], fun f' hf' => by simp [Target.leads] at hf'; subst hf'; exact hFg, by simp [invoke, go_sem, eg], fun _ => h1, ?_⟩
  refine (hseq L (fun pre W => I pre W ∧ At .ready none W) (fun pre W => ∃ c, Ix c pre W ∧ At .done (some c) W) W0 sz bel
    (fun s X Y h hs => ⟨hI s X Y h.1 (hs.mono (by omega)), atClosed _ _ X Y h.2 hs⟩)
    (fun s X Y h hs => by obtain ⟨c, hc, ha⟩ := h; exact ⟨c, hIx c s X Y hc (hs.mono (by omega)), atClosed _ _ X Y ha hs⟩)
    ?_ ⟨hI _ _ _ h0 st0, atL, atD⟩).mono ?_
  · -- one round
    rintro pre x W ⟨hi, ha⟩ hpre hlen
    refine ⟨fn, _, assign, body, run_yield (P := P) (args := encs x) ha.1 (hps x), roundIn_of_wpIn hfn (hassign _ x W _ _ rfl fun V hV hN => ?_)⟩
    have hsV : Steps own W0.heap.size W V := Steps.of_below hV
    have haV : At .ready none V := atClosed _ _ _ _ ha hsV
    refine ⟨_, run_beginRound haV.1 rfl, ?_⟩
    have hb := put _ _ .busy none V haV
    have keep : ∀ W3, KeepsFrom w.heap.size (V.putObj L (rec' .busy none)) W3 → At .busy none W3 := fun W3 hk =>
      ⟨hk.same L _ (by simp [L]) hb.1 rfl, hk.same D _ (Nat.le_refl _) hb.2 rfl⟩
    have done : ∀ c W3, KeepsFrom w.heap.size (V.putObj L (rec' .busy none)) W3 → Ix c (pre ++ [x]) W3 →
        ∃ v w', (Instr.endRound L (some c)).run P W3 = .ok v w' ∧ ((Ending.returned v = .returned (.bool true) ∧ (I (pre ++ [x]) w' ∧ At .ready none w') ∧ Kp W w') ∨ (Ending.returned v = .returned (.bool false) ∧ (∃ c, Ix c (pre ++ [x]) w' ∧ At .done (some c) w') ∧ KeepsFrom (w.heap.size + 2) W w')) := fun c W3 hk hx =>
      ⟨_, _, run_endRound (some c) (keep W3 hk).1, .inr ⟨rfl, ⟨c, hIx c _ _ _ hx (putS _ _ .done (some c) W3 (keep W3 hk)), put _ _ .done (some c) W3 (keep W3 hk)⟩,
        KeepsFrom.trans ⟨hV.size, fun k _ _ hk _ => (hV.block k (Array.getElem?_eq_some_iff.1 hk).1).trans hk⟩ ((keepsFrom_put _ (by simp [L])).trans ((KeepsFrom.mk hk.size (fun i o hB => hk.same i o (by omega))).trans (keepsFrom_put _ (by simp [L]))))⟩⟩
    refine wpIn_mono (hbody L pre x W.heap.size _ (hI _ _ _ (hI _ _ _ hi (hsV.mono (by omega))) (putS _ _ .busy none V haV)) (hNew _ _ _ _ (by omega) hN) hpre hlen) ?_
    rintro e a3 W3 hp
    cases e with
    | normal =>
      obtain ⟨hk, hkp, hi3⟩ := hp
      have hb3 := keep W3 hk
      exact ⟨_, _, run_endRound none hb3.1, .inl ⟨rfl, ⟨hI _ _ _ hi3 (putS _ _ .ready none W3 hb3), put _ _ .ready none W3 hb3⟩, hKt (hKu W V hlen hV) (hKt (hKt (putK _ _ .busy none V haV) hkp) (putK _ _ .ready none W3 hb3))⟩⟩
    | ret => exact done _ W3 hp.1 hp.2
    | exit id => exact done _ W3 hp.1 hp.2
    | goto t => exact done _ W3 hp.1 hp.2
    | panic ch => exact hp.elim
    | outgrown => exact hp.elim
  · -- behind the iterator
    rintro e W2 ⟨⟨v, rfl⟩, (⟨hi, ha⟩ | ⟨pre, hSp, c, hi, ha⟩)⟩
    · exact ⟨none, _, run_endLoop ha.1 (by simp), hdone D _ (Nat.le_refl _) (hI _ _ _ hi (putS _ _ .exhausted none W2 ha)) (put _ _ .exhausted none W2 ha).2⟩
    · exact ⟨some c, _, run_endLoop ha.1 (by simp), hstop D c pre _ (Nat.le_refl _) hSp (hIx c _ _ _ hi (putS _ _ .exhausted (some c) W2 ha)) (put _ _ .exhausted (some c) W2 ha).2⟩
end Go.Proofs.YtihadbkjfocdoaaGreatDoor.RK
namespace Go.Proofs.YtihadbkjfocdoaaGreatDoor.BW
open Go.RowKit BM Go.Shelf MC RK
open BK hiding ret_bool ret_i64

theorem BdS.below {pb g : Nat} {M : List (Int × Int × Int)} {X Y : World} (h : BdS pb g M X) (hb : Below X.heap.size X Y) : BdS pb g M Y := by
  obtain ⟨⟨ad, cap, hv, hc, hat⟩, hn⟩ := h
  exact ⟨⟨ad, cap, hv.below hb hv.lt, hc, hat.same (fun e => hb.block g (hn e).2)⟩, fun e => ⟨(hn e).1, Nat.lt_of_lt_of_le (hn e).2 hb.size⟩⟩
theorem BdI.seq {w W : World} {L : List (Int × Int × Int)} (h : BdI w L W) : ∃ g, BdS w.heap.size g L W ∧ w.heap.size ≤ g ∧ g < W.heap.size := by
  obtain ⟨⟨v, hv, hl, hr⟩, hb⟩ := h
  rcases hr with ⟨rfl, h0⟩ | ⟨g, cap, cur, rfl, hg, hh, hn, hc, hs, ht⟩
  · have : L = [] := List.eq_nil_of_length_eq_zero h0
    subst this
    exact ⟨w.heap.size, ⟨⟨none, 0, hv, Nat.le_refl _, BdAt.nil _ _ _⟩, fun e => absurd rfl e⟩, Nat.le_refl _, hv.lt⟩
  · have hcell : ∀ j (hj : j < L.length) i, i < 3 → W.cell? ⟨g, j * 3 + i, none⟩ = (encB L[j])[i]? := fun j hj i hi => by
      have h1 : (cellsB L)[j * 3 + i]? = some (encB L[(j * 3 + i) / 3]!)[(j * 3 + i) % 3]! := cellsB_get L _ (by omega)
      rw [show (j * 3 + i) / 3 = j by omega, show (j * 3 + i) % 3 = i by omega] at h1
      have h2 : L[j]! = L[j] := by simp [hj]
      rw [h2] at h1
      rw [← ht, List.getElem?_take, if_pos (by omega)] at h1
      rw [cell_of_row W g _ cur _ (0, 0) hh]
      have h3 : cur[j * 3 + i]? = some (encB L[j])[i]! := by simpa using h1
      rw [h3]
      have : i = 0 ∨ i = 1 ∨ i = 2 := by omega
      rcases this with rfl | rfl | rfl <;> rfl
    refine ⟨g, ⟨⟨_, cap, hv, hn, fun j hj => ⟨0, rfl, ?_⟩⟩, fun _ => ⟨by omega, (Array.getElem?_eq_some_iff.1 hh).1⟩⟩, by omega, (Array.getElem?_eq_some_iff.1 hh).1⟩
    have k0 := hcell j hj 0 (by decide)
    have k1 := hcell j hj 1 (by decide)
    have k2 := hcell j hj 2 (by decide)
    rw [Nat.zero_add]
    exact ⟨k0, k1, k2⟩
/-- What a round must keep for the iterator of the borders. -/
def KpB (pb g N : Nat) (X Y : World) : Prop := KeepsFrom N X Y ∧ KeepS (KB pb g) X Y
theorem bd_seq (n : Nat) (L : List (Int × Int × Int)) (hT : totB L ≤ 1000) (pb g : Nat) (w : World) (hS : BdS pb g L w) :
    SeqL Fence.wide n Tryz.prog 134 #[.pointer (some ⟨pb, 0, none⟩)] (fun x : Int × Int × Int => #[Value.agg #[.int .i64 x.1, .int .i64 x.2.1, .int .i64 x.2.2]]) (fun k => k = pb) (KpB pb g (w.heap.size + 2)) (mrg L) 0 w :=
  fun l J Jx W hsz hW hJ _ hY h0 => bdseq_in n L hT pb g l J Jx W (hS.below hW) hJ
    (fun pre x W1 hj hp hs => yieldAt_mono (hY pre x W1 hj hp (by omega)) (fun e w' h => h.imp (fun h => ⟨h.1, h.2.1, by rw [hsz]; exact h.2.2.1, h.2.2.2⟩) (fun h => ⟨h.1, h.2.1⟩))) h0
theorem below_stepsO {own : Nat → Prop} {B C : Nat} {w X Y : World} (h : Below B w X) (hs : RK.Steps own C X Y) (hB : B ≤ C) (hw : B ≤ w.heap.size) (ho : ∀ k, own k → B ≤ k) : Below B w Y :=
  h.trans ⟨hs.os, hs.tape, hs.output, hs.size, fun k hk => by
    have hlt : k < X.heap.size := Nat.lt_of_lt_of_le hk (Nat.le_trans hw h.size)
    rw [hs.same k X.heap[k] (Array.getElem?_eq_getElem hlt) (fun h => by have := ho k h; omega) (fun h => by omega), Array.getElem?_eq_getElem hlt]⟩
theorem own_set {w : World} {base : Nat} {e : TypeId} {size n g cap : Nat} {xs : List Value} (h : w.ownsRow base e size (.slice (some ⟨g, 0, none⟩) n cap) n xs) {i : Nat} (_ : i < n * size) (u : Value) :
    (w.setCell ⟨g, i, none⟩ u).ownsRow base e size (.slice (some ⟨g, 0, none⟩) n cap) n (xs.set i u) := by
  obtain ⟨hl, h⟩ := h
  rcases h with ⟨h0, _⟩ | ⟨g', cap', cur, e1, hb, hg, hn, hc, hs, ht⟩
  · cases h0
  · injection e1 with e1 _ e2
    injection e1 with e1
    injection e1 with e1
    subst e1 e2
    refine ⟨by rw [List.length_set]; exact hl, .inr ⟨g, cap, cur.setIfInBounds i u, rfl, hb, Blk.set_ (w := w) hg i u, hn, hc, by simpa using hs, ?_⟩⟩
    rw [Array.toList_setIfInBounds, List.take_set, ht]
/-- The cells of spans. -/
def encS (x : Int × Int) : List Value := [.int .i64 x.1, .int .i64 x.2]
def cellsS (L : List (Int × Int)) : List Value := L.flatMap encS
theorem cellsS_len (L : List (Int × Int)) : (cellsS L).length = L.length * 2 := by
  induction L with
  | nil => rfl
  | cons x L ih => simp only [cellsS, List.flatMap_cons, List.length_append, List.length_cons, encS, List.length_nil] at *; omega
theorem cellsS_snoc (L : List (Int × Int)) (x : Int × Int) : cellsS (L ++ [x]) = cellsS L ++ [.int .i64 x.1, .int .i64 x.2] := by simp [cellsS, encS]
theorem cellsS_get : ∀ (L : List (Int × Int)) (k : Nat) (hk : k < L.length), (cellsS L)[k * 2]? = some (.int .i64 L[k].1) ∧ (cellsS L)[k * 2 + 1]? = some (.int .i64 L[k].2) := by
  intro L
  induction L with
  | nil => intro k hk; cases hk
  | cons x L ih =>
    intro k hk
    rw [show cellsS (x :: L) = encS x ++ cellsS L from by simp [cellsS]]
    cases k with
    | zero => exact ⟨rfl, rfl⟩
    | succ k =>
      obtain ⟨h1, h2⟩ := ih k (by simpa using hk)
      constructor
      · rw [List.getElem?_append_right (by simp [encS]; omega), show (k + 1) * 2 - (encS x).length = k * 2 from by simp [encS]; omega]; exact h1
      · rw [List.getElem?_append_right (by simp [encS]; omega), show (k + 1) * 2 + 1 - (encS x).length = k * 2 + 1 from by simp [encS]; omega]; exact h2
/-- Spans that this call owns. -/
def OwnsS (B : Nat) (v : Value) (ys : List (Int × Int)) (w : World) : Prop := w.ownsRow B 66 2 v ys.length (cellsS ys)
theorem OwnsS.shape {B : Nat} {v : Value} {ys : List (Int × Int)} {w : World} (h : OwnsS B v ys w) : ∃ a cap, v = .slice a ys.length cap ∧ SpansAt w a ys := by
  obtain ⟨hl, h⟩ := h
  rcases h with ⟨rfl, h0⟩ | ⟨g, cap, cur, rfl, hb, hg, hn, hc, hs, ht⟩
  · have : ys = [] := List.eq_nil_of_length_eq_zero h0
    subst this
    exact ⟨none, 0, rfl, fun k hk => by simp at hk⟩
  · refine ⟨_, cap, rfl, fun k hk => ⟨g, 0, rfl, ?_⟩⟩
    obtain ⟨h1, h2⟩ := cellsS_get ys k hk
    rw [← ht, List.getElem?_take, if_pos (by omega)] at h1 h2
    rw [Nat.zero_add, cell_of_row w g _ cur _ (0, 0) hg, cell_of_row w g _ cur _ (0, 0) hg]
    exact ⟨by simpa using h1, by simpa using h2⟩
/-! ### what join has found so far -/
def stp (wt : Bool → Bool → Bool) (s : Int × Int × Option Int × List (Int × Int)) (x : Int × Int × Int) : Int × Int × Option Int × List (Int × Int) :=
  match s.2.2.1, wt (decide (0 < s.1 + x.2.1)) (decide (0 < s.2.1 + x.2.2)) with
  | none, true => (s.1 + x.2.1, s.2.1 + x.2.2, some x.1, s.2.2.2)
  | none, false => (s.1 + x.2.1, s.2.1 + x.2.2, none, s.2.2.2)
  | some f, true => (s.1 + x.2.1, s.2.1 + x.2.2, some f, s.2.2.2)
  | some f, false => (s.1 + x.2.1, s.2.1 + x.2.2, none, s.2.2.2 ++ [(f, x.1 - 1)])
def stF (wt : Bool → Bool → Bool) (pre : List (Int × Int × Int)) : Int × Int × Option Int × List (Int × Int) := pre.foldl (stp wt) (0, 0, none, [])
def stO (s : Int × Int × Option Int × List (Int × Int)) : List (Int × Int) := s.2.2.2 ++ (match s.2.2.1 with
  | none => []
  | some f => [(f, 0)])
theorem st_sweep (wt : Bool → Bool → Bool) : ∀ (L : List (Int × Int × Int)) (m n : Int) (op : Option Int) (d : List (Int × Int)), stO (L.foldl (stp wt) (m, n, op, d)) = d ++ sweep wt L m n op := by
  intro L
  induction L with
  | nil => intro m n op d; cases op <;> rfl
  | cons x L ih =>
    intro m n op d
    rw [List.foldl_cons]
    cases hw : wt (decide (0 < m + x.2.1)) (decide (0 < n + x.2.2)) <;> cases op <;> simp only [stp, hw, sweep, ih] <;> simp
theorem stF_sweep (wt : Bool → Bool → Bool) (L : List (Int × Int × Int)) : stO (stF wt L) = sweep wt L 0 0 none := by
  unfold stF
  rw [st_sweep, List.nil_append]
theorem stF_snoc (wt : Bool → Bool → Bool) (pre : List (Int × Int × Int)) (x : Int × Int × Int) : stF wt (pre ++ [x]) = stp wt (stF wt pre) x := by
  unfold stF
  rw [List.foldl_append]; rfl
theorem stp_mn (wt : Bool → Bool → Bool) (s : Int × Int × Option Int × List (Int × Int)) (x : Int × Int × Int) : (stp wt s x).1 = s.1 + x.2.1 ∧ (stp wt s x).2.1 = s.2.1 + x.2.2 := by
  unfold stp
  split <;> exact ⟨rfl, rfl⟩
theorem st_bd (wt : Bool → Bool → Bool) : ∀ (L : List (Int × Int × Int)) (s : Int × Int × Option Int × List (Int × Int)), (L.foldl (stp wt) s).1.natAbs + (L.foldl (stp wt) s).2.1.natAbs ≤ s.1.natAbs + s.2.1.natAbs + totB L ∧ (stO (L.foldl (stp wt) s)).length ≤ (stO s).length + L.length := by
  intro L
  induction L with
  | nil => intro s; exact ⟨by simp [totB], by simp⟩
  | cons x L ih =>
    intro s
    obtain ⟨h1, h2⟩ := ih (stp wt s x)
    obtain ⟨e1, e2⟩ := stp_mn wt s x
    rw [List.foldl_cons]
    refine ⟨?_, ?_⟩
    · rw [e1, e2] at h1
      simp only [totB]
      omega
    · have : (stO (stp wt s x)).length ≤ (stO s).length + 1 := by
        obtain ⟨m, n, op, d⟩ := s
        cases hw : wt (decide (0 < m + x.2.1)) (decide (0 < n + x.2.2)) <;> cases op <;> simp [stp, hw, stO]
      rw [List.length_cons]; omega
theorem stF_bd (wt : Bool → Bool → Bool) (pre : List (Int × Int × Int)) : (stF wt pre).1.natAbs + (stF wt pre).2.1.natAbs ≤ totB pre ∧ (stO (stF wt pre)).length ≤ pre.length := by
  obtain ⟨h1, h2⟩ := st_bd wt pre (0, 0, none, [])
  unfold stF
  exact ⟨by simpa using h1, by simpa [stO] using h2⟩
theorem totB_prefix {A B : List (Int × Int × Int)} (h : A <+: B) : totB A ≤ totB B := by
  obtain ⟨C, rfl⟩ := h
  rw [totB_append]; omega
theorem totB_len {L : List (Int × Int × Int)} : (mrg L).length ≤ L.length := by
  induction L with
  | nil => exact Nat.le_refl _
  | cons x L ih =>
    rw [mrg_cons]
    revert ih
    cases mrg L with
    | nil => intro _; simp
    | cons y M =>
      intro ih
      by_cases h : y.1 = x.1
      · simp only [if_pos h, List.length_cons] at ih ⊢; omega
      · simp only [if_neg h, List.length_cons] at ih ⊢; omega
end Go.Proofs.YtihadbkjfocdoaaGreatDoor.BW
namespace Go.Proofs.YtihadbkjfocdoaaGreatDoor.BW
open Go.RowKit BM Go.Shelf MC RK
open BK hiding ret_bool ret_i64

attribute [local go_sem] Oper.semAt_some

theorem info_sp : (Tryz.prog.info? 66).map (fun i => (i.zero, i.size, i.bytes)) = some (some (.agg #[.int .i64 0, .int .i64 0]), 2, 16) := by kernel_rfl
theorem read2 (w : World) (a b : Int) (T : TypeId) : ∀ (j : Nat) (u : Value), [Value.int .i64 a, .int .i64 b][j]? = some u → (w.alloc (.cells #[.int .i64 a, .int .i64 b] T)).cell? ((⟨w.heap.size, 0, none⟩ : Addr).add j) = some u := by
  intro j u hj
  match j, hj with
  | 0, hj => simp at hj; subst hj; simp [Addr.add]
  | 1, hj => simp at hj; subst hj; simp [Addr.add]
theorem one2 (a b : Int) : ∀ u ∈ [Value.int .i64 a, .int .i64 b], u.oneCell' = true := by
  intro u hu; simp at hu; rcases hu with rfl | rfl <;> rfl
def stC (op : Option Int) (iw : Bool) (m n x0 : Int) (d : List (Int × Int)) : Int × Int × Option Int × List (Int × Int) := match op, iw with
  | none, true => (m, n, some x0, d)
  | none, false => (m, n, none, d)
  | some f, true => (m, n, some f, d)
  | some f, false => (m, n, none, d ++ [(f, x0 - 1)])
theorem stp_C (wt : Bool → Bool → Bool) (m n : Int) (op : Option Int) (d : List (Int × Int)) (x0 x1 x2 : Int) : stp wt (m, n, op, d) (x0, x1, x2) = stC op (wt (decide (0 < m + x1)) (decide (0 < n + x2))) (m + x1) (n + x2) x0 d := by
  cases op <;> cases hb : wt (decide (0 < m + x1)) (decide (0 < n + x2)) <;> simp only [stp, stC, hb]
theorem set_to (d : List (Int × Int)) (f u : Int) : (cellsS (d ++ [(f, 0)])).set (d.length * 2 + 1) (.int .i64 u) = cellsS (d ++ [(f, u)]) := by
  rw [cellsS_snoc, cellsS_snoc, List.set_append_right _ _ (by rw [cellsS_len]; omega), cellsS_len, show d.length * 2 + 1 - d.length * 2 = 1 by omega]
  rfl
theorem blk_app {W w1 : World} {k base : Nat} {t e : TypeId} {size n : Nat} {v : Value} {cs : Array Value} {xs : List Value} {tmp : Obj} (h : Blk W k t cs) (hk : k < base) (hrow : W.ownsRow base e size v n xs) (hgrow : (W.alloc tmp).grownBy w1 v.ownBlock) : Blk w1 k t cs :=
  (hgrow.block k (by simp; have := h.lt; omega) (own_ge hrow hk)).trans (h.alloc tmp)
/-- What is known in join's rounds. -/
structure JnI (w : World) (wf : Value) (base : Nat) (s : Int × Int × Option Int × List (Int × Int)) (W : World) : Prop where
  wb : Blk W w.heap.size 171 #[wf]
  out : ∃ v, Blk W (w.heap.size + 1) 50 #[v] ∧ OwnsS base v (stO s) W
  many : Blk W (w.heap.size + 2) 186 #[.int .i64 s.1, .int .i64 s.2.1]
  opn : Blk W (w.heap.size + 3) 4 #[.bool s.2.2.1.isSome]
  below : Below w.heap.size w W
theorem JnI.steps {w : World} {wf : Value} {base pb C : Nat} {s : Int × Int × Option Int × List (Int × Int)} {X Y : World} (h : JnI w wf base s X) (hs : RK.Steps (fun k => k = pb) C X Y) (hC : w.heap.size ≤ C) (hpb : w.heap.size + 3 < pb) (hpb2 : pb < base) : JnI w wf base s Y :=
  ⟨steps_blk hs h.wb (fun e => by have e : w.heap.size = pb := e; omega), h.out.elim fun v hv => ⟨v, steps_blk hs hv.1 (fun e => by have e : w.heap.size + 1 = pb := e; omega), hv.2.1, hv.2.2.imp id fun ⟨g, cap, cur, h1, h2, h3, h4⟩ => ⟨g, cap, cur, h1, h2, hs.same g _ h3 (fun e => by have e : g = pb := e; omega) (fun _ => rfl), h4⟩⟩,
    steps_blk hs h.many (fun e => by have e : w.heap.size + 2 = pb := e; omega), steps_blk hs h.opn (fun e => by have e : w.heap.size + 3 = pb := e; omega), below_stepsO h.below hs hC (Nat.le_refl _) (fun k hk => by have e : k = pb := hk; omega)⟩
theorem OwnsS.far {B : Nat} {v : Value} {ys : List (Int × Int)} {W : World} (h : OwnsS B v ys W) {b j : Nat} (hb : b < B) (u : Value) : OwnsS B v ys (W.setCell ⟨b, j, none⟩ u) :=
  ⟨h.1, h.2.imp id fun ⟨g, cap, cur, h1, h2, h3, h4⟩ => ⟨g, cap, cur, h1, h2, (Below.heap_setCell W _ u g (by simp; omega)).trans h3, h4⟩⟩
theorem OwnsS.below {B : Nat} {v : Value} {ys : List (Int × Int)} {W X : World} (h : OwnsS B v ys W) (hb : Below W.heap.size W X) : OwnsS B v ys X :=
  ⟨h.1, h.2.imp id fun ⟨g, cap, cur, h1, h2, h3, h4⟩ => ⟨g, cap, cur, h1, h2, (hb.block g (Array.getElem?_eq_some_iff.1 h3).1).trans h3, h4⟩⟩
theorem OwnsS.mono {B C : Nat} {v : Value} {ys : List (Int × Int)} {w : World} (h : OwnsS C v ys w) (hB : B ≤ C) : OwnsS B v ys w := ownsRow_mono h hB
set_option maxRecDepth 8000 in
set_option maxHeartbeats 8000000 in
theorem join_ok (wt : Bool → Bool → Bool) (hw0 : wt false false = false) (fw : Nat) (E : ∀ args w, (callFunc fw args).run Tryz.prog w = .ok (.enter fw args) w)
    (CW : ∀ a b W, Calls Tryz.prog fw #[.bool a, .bool b] W fun r w' => r = .returned (.bool (wt a b)) ∧ Below W.heap.size W w')
    (a b : List (Int × Int)) (aa ab : Option Addr) (na ca nb cb : Nat) (hna : a.length = na) (hnb : b.length = nb) (ha9 : na ≤ 64) (hb9 : nb ≤ 64) (hva : ∀ u ∈ a, 0 ≤ u.1 ∧ u.1 ≤ u.2 ∧ u.2 ≤ 253402300799) (hvb : ∀ u ∈ b, 0 ≤ u.1 ∧ u.1 ≤ u.2 ∧ u.2 ≤ 253402300799) (w : World) (ha : SpansAt w aa a) (hb : SpansAt w ab b) :
    Calls Tryz.prog 123 #[.slice aa na ca, .slice ab nb cb, .func (.func fw) #[] #[]] w fun r w' => ∃ v ys, r = .returned v ∧ OwnsS w.heap.size v ys w' ∧ NormS (fun s => wt (a.any (inS s)) (b.any (inS s))) (-1) 0 ys ∧ Below w.heap.size w w' := by
  refine callsIn_wide (n := 3).1 ?_
  obtain ⟨i0, hi0, hz0, hz1, hz2⟩ := info_parts info_sp
  obtain ⟨W1, hW1⟩ : ∃ W1, W1 = (((w.alloc (.cells #[.func (.func fw) #[] #[]] 171)).alloc (.cells #[.slice none 0 0] 50)).alloc (.cells #[.int .i64 0, .int .i64 0] 186)).alloc (.cells #[.bool false] 4) := ⟨_, rfl⟩
  have hq0 : Blk W1 w.heap.size 171 #[.func (.func fw) #[] #[]] := by rw [hW1]; exact (((Blk.new w _ _).alloc _).alloc _).alloc _
  have hq1 : Blk W1 (w.heap.size + 1) 50 #[.slice none 0 0] := by rw [hW1]; exact ((Blk.newAt (by simp)).alloc _).alloc _
  have hq2 : Blk W1 (w.heap.size + 2) 186 #[.int .i64 0, .int .i64 0] := by rw [hW1]; exact (Blk.newAt (by simp)).alloc _
  have hq3 : Blk W1 (w.heap.size + 3) 4 #[.bool false] := by rw [hW1]; exact Blk.newAt (by simp)
  have hB1 : Below w.heap.size w W1 := by rw [hW1]; exact ((((Below.refl _ w).alloc (Nat.le_refl _) _).alloc (by simp) _).alloc (by simp; omega) _).alloc (by simp; omega) _
  have hsz : W1.heap.size = w.heap.size + 4 := by rw [hW1]; simp
  have CB : Hid (Calls Tryz.prog 128 #[.slice aa na ca, .slice ab nb cb] W1 fun r w' => ∃ L g, r = .returned (.func (.func 134) #[] #[.pointer (some ⟨w.heap.size + 4, 0, none⟩)]) ∧ totB L ≤ 1000 ∧ NormS (fun s => wt (a.any (inS s)) (b.any (inS s))) (-1) 0 (sweep wt (mrg L) 0 0 none) ∧ L.length ≤ 256 ∧ (∀ y ∈ mrg L, 0 ≤ y.1 ∧ y.1 ≤ 253402300800) ∧ BdS (w.heap.size + 4) g L w' ∧ (w.heap.size + 4 ≤ g ∧ g < w'.heap.size) ∧ Below W1.heap.size W1 w') := Lib.hid (by
    refine (borders_ok a b aa ab na ca nb cb hna hnb ha9 hb9 hva hvb W1 (ha.below hB1) (hb.below hB1)).mono ?_
    rintro r w' ⟨L, rfl, hp, hs, hI⟩
    obtain ⟨g, hS, hg1, hg2⟩ := hI.seq
    rw [hsz] at hS hg1 ⊢
    have ht := totB_perm hp
    rw [totB_bds] at ht
    have hl := bd_len a b na nb nb hna hnb ha9 hb9
    rw [show b.take nb = b from List.take_of_length_le (by omega)] at hl
    have hpl := hp.length_eq
    unfold bds at hpl
    rw [List.length_append] at hpl
    have hmm : ∀ y ∈ mrg L, 0 ≤ y.1 ∧ y.1 ≤ 253402300800 := fun y hy => by
      obtain ⟨x, hx, e⟩ := mrg_mem y hy
      obtain ⟨u, hu, he⟩ := bds_mem ((hp.mem_iff).1 hx)
      have : 0 ≤ u.1 ∧ u.1 ≤ u.2 ∧ u.2 ≤ 253402300799 := by
        rcases hu with hu | hu
        · exact hva u hu
        · exact hvb u hu
      omega
    exact ⟨L, g, rfl, by omega, join_norm hw0 hva hvb hp hs, by omega, hmm, hS, ⟨hg1, hg2⟩, by have := hI.below; rwa [hsz] at this⟩)
  have HW1 := Lib.hid hW1
  have CWH := Lib.hid CW
  rw [hW1] at CB
  clear hW1 ha hb hva hvb hna hnb CW
  refine callsIn_of_wp_marks Tryz.func123 rfl trivial ?_ rfl
  simp only [Tryz.ntmps123, List.size_toArray, List.length_cons, List.length_nil, Nat.reduceAdd, Nat.reduceSub, Array.replicate_succ, Array.replicate_zero, List.push_toArray, List.append_toArray, List.nil_append, List.cons_append]
  gi_wp2_with fail
  refine ⟨trivial, (callsIn_wide.2 CB.out).mono ?_⟩
  rintro e w3 ⟨L, g, rfl, hT, hN, hL6, hMM, hS, hg, hb0⟩
  have HMM := Lib.hid hMM
  clear hMM
  have hb : Below W1.heap.size W1 w3 := by rw [HW1.out]; exact hb0
  clear hb0
  rw [hsz] at hb
  have hs3 := hb.size
  rw [hsz] at hs3
  have HI3 : Hid (JnI w (.func (.func fw) #[] #[]) (w3.heap.size + 2) (stF wt []) w3) := Lib.hid ⟨hq0.below hb (by omega), ⟨_, hq1.below hb (by omega), World.ownsRow_nil _ _ _ _⟩, hq2.below hb (by omega), hq3.below hb (by omega), hB1.trans (hb.mono (by omega))⟩
  have SQ := bd_seq (3 - 1) L hT (w.heap.size + 4) g w3 hS
  have EG := enters_of Tryz.func134 (by kernel_rfl) rfl
  have HN := Lib.hid hN
  have HT := Lib.hid hT
  clear hb hq0 hq1 hq2 hq3 CB hN hT hS HW1 hB1
  gi_wp2_with fail
  refine' wpIn_rangeFunc_seqU rfl (by decide) (gf := 134) (lb := #[.pointer (some ⟨w.heap.size + 4, 0, none⟩)]) ?hg trivial EG
    SQ (fun k h => by have e : k = w.heap.size + 4 := h; omega) (fun h k => ⟨h.1.trans k.1, h.2.trans k.2⟩)
    (fun W o o' hl hc => ⟨keepsFrom_put _ (by omega), fun k hk => World.putObj_heap_other (by unfold KB at hk; omega)⟩)
    (fun W V hl hb => ⟨⟨hb.size, fun k _ _ hk _ => (hb.block k (Array.getElem?_eq_some_iff.1 hk).1).trans hk⟩, fun k hk => hb.block k (by unfold KB at hk; omega)⟩) (fun _ => rfl)
    (fun x b V => Blk V b 191 #[.int .i64 x.1, .int .i64 x.2.1, .int .i64 x.2.2]) (fun x b V o hb h => (World.putObj_heap_other hb).trans h)
    (fun pre W => JnI w (.func (.func fw) #[] #[]) (w3.heap.size + 2) (stF wt pre) W) (fun _ _ _ => False) (fun pre X Y h hs => h.steps hs (by omega) (by omega) (by omega)) (fun c pre X Y h hs => h)
    HI3.out _ ?assign ?body ?done ?stop
  case hg => rfl
  case assign =>
    intro l x W bb K hbb hK
    gi_wp2
    exact hK _ ((Below.refl _ _).alloc (Nat.le_refl _) _) (by rw [← hbb]; exact Blk.new W _ _)
  case body =>
    clear EG SQ HI3
    rintro l pre ⟨x0, x1, x2⟩ bb W hi hx hpre hbb
    have hbd := stF_bd wt pre
    have htp := totB_prefix hpre
    have htm := totB_mrg L
    have hT2 := HT.out
    have hml := hpre.length_le
    have hln := totB_len (L := L)
    have hx9 := HMM.out _ (hpre.subset (List.mem_append_right _ (List.mem_singleton.2 rfl)))
    rw [totB_append] at htp
    rw [List.length_append] at hml
    simp only [totB, List.length_cons, List.length_nil] at htp hml
    have HNX := Lib.hid (stF_snoc wt pre (x0, x1, x2))
    generalize stF wt pre = s at *
    obtain ⟨m, n, op, d⟩ := s
    simp only at hx hbd hx9
    have hlen : d.length + 1 ≤ 1000 := by
      have : d.length ≤ (stO (m, n, op, d)).length := by simp [stO]
      omega
    have w1 : IntKind.i64.wrap (m + x1) = m + x1 := IntWalk.i64_in _ (by omega)
    have w2 : IntKind.i64.wrap (n + x2) = n + x2 := IntWalk.i64_in _ (by omega)
    have w4 : IntKind.i64.wrap (x0 - 1) = x0 - 1 := IntWalk.i64_in _ (by omega)
    clear hbd htp htm hT2 hml hln hx9
    obtain ⟨v, hv, hrow⟩ := hi.out
    obtain ⟨W2, hW2⟩ : ∃ W2, W2 = (W.setCell ⟨w.heap.size + 2, 0, none⟩ (.int .i64 (m + x1))).setCell ⟨w.heap.size + 2, 1, none⟩ (.int .i64 (n + x2)) := ⟨_, rfl⟩
    have hzW2 : W2.heap.size = W.heap.size := by rw [hW2]; simp [World.setCell]
    have hm2 : Blk W2 (w.heap.size + 2) 186 #[.int .i64 (m + x1), .int .i64 (n + x2)] := by rw [hW2]; exact (hi.many.set_ 0 _).set_ 1 _
    have hv2 : Blk W2 (w.heap.size + 1) 50 #[v] := by rw [hW2]; exact (hv.far (by simp) _).far (by simp) _
    have hw2 : Blk W2 w.heap.size 171 #[.func (.func fw) #[] #[]] := by rw [hW2]; exact (hi.wb.far (by simp) _).far (by simp) _
    have ho2 : Blk W2 (w.heap.size + 3) 4 #[.bool op.isSome] := by rw [hW2]; exact (hi.opn.far (by simp) _).far (by simp) _
    have hx2 : Blk W2 bb 191 #[.int .i64 x0, .int .i64 x1, .int .i64 x2] := by rw [hW2]; exact (hx.far (by simp; omega) _).far (by simp; omega) _
    have hr2 : OwnsS (w3.heap.size + 2) v (stO (m, n, op, d)) W2 := by rw [hW2]; exact (hrow.far (by omega) _).far (by omega) _
    have hB2 : Below w.heap.size w W2 := by rw [hW2]; exact (hi.below.setCell (by simp) _).setCell (by simp) _
    have hkf2 : KeepsFrom w3.heap.size W W2 := by rw [hW2]; exact keepsFrom_set (keepsFrom_set (KeepsFrom.refl _ _) (by omega) _) (by omega) _
    have hks2 : KeepS (KB (w.heap.size + 4) g) W W2 := fun k hk => by
      have : k ≠ w.heap.size + 2 := by unfold KB at hk; omega
      rw [hW2, Below.heap_setCell _ _ _ _ this, Below.heap_setCell _ _ _ _ this]
    have c2 : W.cell? ⟨w.heap.size + 2, 0, none⟩ = some (.int .i64 m) := hi.many.cell 0
    have c3 : W.cell? ⟨w.heap.size + 2, 1, none⟩ = some (.int .i64 n) := hi.many.cell 1
    have f2 : W.frozen? ⟨w.heap.size + 2, 0, none⟩ = false := hi.many.frozen 0
    have f3 : W.frozen? ⟨w.heap.size + 2, 1, none⟩ = false := hi.many.frozen 1
    have y1 : W.cell? ⟨bb, 1, none⟩ = some (.int .i64 x1) := hx.cell 1
    have y2 : W.cell? ⟨bb, 2, none⟩ = some (.int .i64 x2) := hx.cell 2
    have c0 : W.cell? ⟨w.heap.size, 0, none⟩ = some (.func (.func fw) #[] #[]) := hi.wb.cell 0
    have n1 : ¬ bb = w.heap.size + 2 := by omega
    have n2 : ¬ w.heap.size + 2 = bb := by omega
    obtain ⟨q0, hq0⟩ : ∃ q, decide (0 < m + x1) = q := ⟨_, rfl⟩
    obtain ⟨q1, hq1⟩ : ∃ q, decide (0 < n + x2) = q := ⟨_, rfl⟩
    obtain ⟨iw, hiw⟩ : ∃ q, wt q0 q1 = q := ⟨_, rfl⟩
    have C := Lib.hid (CWH.out q0 q1 W2)
    rw [hiw] at C
    have HST : Hid (stF wt (pre ++ [(x0, x1, x2)]) = stC op iw (m + x1) (n + x2) x0 d) := Lib.hid (by rw [HNX.out, stp_C, hq0, hq1, hiw])
    have HW2 := Lib.hid hW2
    have HH := Lib.hid (And.intro hm2 (And.intro hv2 (And.intro ho2 (And.intro hw2 hr2))))
    have HX2 := Lib.hid hx2
    have HK2 := Lib.hid (And.intro hB2 (And.intro hkf2 hks2))
    rw [hW2] at C
    clear hW2 hiw hm2 hv2 ho2 hw2 hx2 hr2 hB2 hkf2 hks2 hi hx hv hrow HNX
    gi_wp2_with fail
    refine ⟨trivial, (callsIn_wide.2 C.out).mono ?_⟩
    rintro e w5 ⟨rfl, hb5⟩
    have hb5 : Below W2.heap.size W2 w5 := by rw [HW2.out]; exact hb5
    obtain ⟨hm2, hv2, ho2, hw2, hr2⟩ := HH.out
    have hm5 := hm2.below hb5 hm2.lt
    have hv5 := hv2.below hb5 hv2.lt
    have ho5 := ho2.below hb5 ho2.lt
    have hw5 := hw2.below hb5 hw2.lt
    have hx5 := HX2.out.below hb5 HX2.out.lt
    have hr5 := hr2.below hb5
    have hz5 : W.heap.size ≤ w5.heap.size := by rw [← hzW2]; exact hb5.size
    have hzb : bb < w5.heap.size := hx5.lt
    have HB5 := Lib.hid (HK2.out.1.trans (hb5.mono HK2.out.1.size))
    have hWz : w3.heap.size + 2 ≤ W2.heap.size := by have := HX2.out.lt; omega
    have HKF := Lib.hid (HK2.out.2.1.trans (keepsFrom_below hb5))
    have HKS := Lib.hid (HK2.out.2.2.trans (keepS_below hb5 (fun k hk => by unfold KB at hk; omega)))
    have c1 : w5.cell? ⟨w.heap.size + 1, 0, none⟩ = some v := hv5.cell 0
    have c4 : w5.cell? ⟨w.heap.size + 3, 0, none⟩ = some (.bool op.isSome) := ho5.cell 0
    have f1 : w5.frozen? ⟨w.heap.size + 1, 0, none⟩ = false := hv5.frozen 0
    have f4 : w5.frozen? ⟨w.heap.size + 3, 0, none⟩ = false := ho5.frozen 0
    have y0 : w5.cell? ⟨bb, 0, none⟩ = some (.int .i64 x0) := hx5.cell 0
    have HZ := Lib.hid (And.intro hm5 (And.intro hv5 (And.intro ho5 (And.intro hw5 hr5))))
    clear hm2 hv2 ho2 hw2 hr2 hm5 ho5 hw5 hx5 hb5 HH HX2 HK2 HW2 C c2 c3 f2 f3 y1 y2 c0 n1 n2 hq0 hq1 w1 w2
    have hdone : ∀ b : Bool, KeepsFrom w3.heap.size W (w5.setCell ⟨w.heap.size + 3, 0, none⟩ (.bool b)) ∧ KpB (w.heap.size + 4) g (w3.heap.size + 2) W (w5.setCell ⟨w.heap.size + 3, 0, none⟩ (.bool b)) := fun b =>
      ⟨keepsFrom_set HKF.out (by omega) _, keepsFrom_mono (keepsFrom_set HKF.out (by omega) _) (by omega), fun k hk => (Below.heap_setCell _ _ _ _ (by unfold KB at hk; simp; omega)).trans (HKS.out k hk)⟩
    have HDONE := Lib.hid hdone
    clear hdone
    cases op with
    | none =>
      have hr5 : OwnsS (w3.heap.size + 2) v d w5 := by simpa [stO] using hr5
      cases iw with
      | false =>
        simp only [Option.isSome_none] at c4
        have HE : Hid (JnI w (.func (.func fw) #[] #[]) (w3.heap.size + 2) (stF wt (pre ++ [(x0, x1, x2)])) (w5.setCell ⟨w.heap.size + 3, 0, none⟩ (.bool false))) := Lib.hid (by
          rw [HST.out]
          exact ⟨HZ.out.2.2.2.1.far (by simp) _, ⟨v, HZ.out.2.1.far (by simp) _, HZ.out.2.2.2.2.far (by omega) _⟩, HZ.out.1.far (by simp) _, HZ.out.2.2.1.set_ 0 _, HB5.out.setCell (by simp) _⟩)
        clear hr5 hv5
        gi_wp2_with fail
        exact ⟨(HDONE.out false).1, (HDONE.out false).2, HE.out⟩
      | true =>
        simp only [Option.isSome_none] at c4
        have hrow : w5.ownsRow (w3.heap.size + 2) 66 2 v d.length (cellsS d) := hr5
        have hpl : w.heap.size + 1 < w3.heap.size + 2 := by omega
        have hml1 : d.length + 1 ≤ maxLen := by unfold maxLen; omega
        have hml2 : (d.length + 1) * 16 ≤ 140737488355328 := by omega
        have hsz2 : w3.heap.size + 2 ≤ w5.heap.size := by omega
        have hml3 : w3.heap.size + 2 ≤ (w5.alloc (.cells #[.int .i64 x0, .int .i64 0] 66)).heap.size := by simp; omega
        have nx1 : w.heap.size + 3 < w3.heap.size + 2 := by omega
        have hob : Blk w5 (w.heap.size + 3) 4 #[.bool false] := HZ.out.2.2.1
        have HOB := Lib.hid hob
        clear hob
        gi_wp2_with (gi_at_builtin; refine wpListIn_append_own _ rfl _ _ 50 rfl (w3.heap.size + 2) 66 i0 (.agg #[.int .i64 0, .int .i64 0]) 2 16 Tryz.underlying50 hi0 hz0 hz1 hz2 rfl (by decide) _ _ _ rfl (own_alloc hrow _) ⟨w5.heap.size, 0, none⟩ 1 1 [.int .i64 x0, .int .i64 0] rfl rfl (read2 _ _ _ _) (one2 _ _) hml1 hml2 hml3 ?_; intro v' w1 hown' hgrow _; obtain ⟨g', cap', rfl⟩ := ownsRow_succ hown'; obtain ⟨hv1, hv2, hr2, hk2, hb2, hbl⟩ := appended_low hv5 hpl hrow hsz2 hown' hgrow; have hc1 := hv1.cell 0; have hf1 := hv1.frozen 0; have hob1 := blk_app HOB.out nx1 hrow hgrow; have hc4 := hob1.cell 0; have hf4 := hob1.frozen 0)
        have nx4 : w.heap.size + 1 ≤ w.heap.size + 1 := Nat.le_refl _
        refine ⟨keepsFrom_set (HKF.out.trans (hk2.from _)) (by omega) _, ⟨keepsFrom_mono (keepsFrom_set (HKF.out.trans (hk2.from _)) (by omega) _) (by omega), fun k hk => ?_⟩, ?_⟩
        · have hk' : k = w.heap.size + 4 ∨ k = g := hk
          exact (Below.heap_setCell _ _ _ _ (by simp; omega)).trans ((hb2 k (by omega) (by omega)).trans (HKS.out k hk))
        · have hkeep : ∀ k, k < w3.heap.size + 2 → k ≠ w.heap.size + 1 → ∀ t cs, Blk w5 k t cs → Blk (w1.setCell ⟨w.heap.size + 1, 0, none⟩ (.slice (some ⟨g', 0, none⟩) (d.length + 1) cap')) k t cs := fun k h1 h2 t cs hbk => (hb2 k h1 h2).trans hbk
          show JnI w _ _ (stF wt (pre ++ [(x0, x1, x2)])) _
          rw [HST.out]
          refine ⟨(hkeep _ (by omega) (by omega) _ _ HZ.out.2.2.2.1).far (by simp; try omega) _, ⟨_, hv2.far (by simp; try omega) _, ?_⟩, (hkeep _ (by omega) (by omega) _ _ HZ.out.1).far (by simp; try omega) _, (hkeep _ (by omega) (by omega) _ _ HZ.out.2.2.1).set_ 0 _, (HB5.out.trans (hbl w.heap.size (by omega))).setCell (by simp; try omega) _⟩
          have h9 : OwnsS (w3.heap.size + 2) (.slice (some ⟨g', 0, none⟩) (d.length + 1) cap') (d ++ [(x0, 0)]) (w1.setCell ⟨w.heap.size + 1, 0, none⟩ (.slice (some ⟨g', 0, none⟩) (d.length + 1) cap')) := by
            unfold OwnsS
            rw [List.length_append, cellsS_snoc]
            exact hr2
          have := h9.far (b := w.heap.size + 3) (j := 0) (by omega) (.bool true)
          simpa [stO, stC] using this
    | some f =>
      cases iw with
      | true =>
        simp only [Option.isSome_some] at c4
        have HE : Hid (JnI w (.func (.func fw) #[] #[]) (w3.heap.size + 2) (stF wt (pre ++ [(x0, x1, x2)])) (w5.setCell ⟨w.heap.size + 3, 0, none⟩ (.bool true))) := Lib.hid (by
          rw [HST.out]
          exact ⟨HZ.out.2.2.2.1.far (by simp) _, ⟨v, HZ.out.2.1.far (by simp) _, HZ.out.2.2.2.2.far (by omega) _⟩, HZ.out.1.far (by simp) _, HZ.out.2.2.1.set_ 0 _, HB5.out.setCell (by simp) _⟩)
        clear hr5 hv5
        gi_wp2_with fail
        exact ⟨(HDONE.out true).1, (HDONE.out true).2, HE.out⟩
      | false =>
        simp only [Option.isSome_some] at c4
        have hrow : w5.ownsRow (w3.heap.size + 2) 66 2 v (d.length + 1) (cellsS (d ++ [(f, 0)])) := by
          have := hr5
          unfold OwnsS at this
          simpa [stO] using this
        obtain ⟨gr, cap, rfl⟩ := ownsRow_succ hrow
        have hgr : w3.heap.size + 2 ≤ gr ∧ w5.frozen? ⟨gr, d.length * 2 + 1, none⟩ = false := by
          rcases hrow.2 with ⟨h0, _⟩ | ⟨g', cap', cur, e1, h2, h3, _⟩
          · cases h0
          · injection e1 with e1 _ e2
            injection e1 with e1
            injection e1 with e1
            subst e1
            exact ⟨h2, by simp [World.frozen?, h3]⟩
        have hcell : ∃ z, w5.cell? ⟨gr, d.length * 2 + 1, none⟩ = some z := by
          rcases hrow.2 with ⟨h0, _⟩ | ⟨g', cap', cur, e1, h2, h3, h4, h5, h6, h7⟩
          · cases h0
          · injection e1 with e1 _ e2
            injection e1 with e1
            injection e1 with e1
            subst e1
            rw [cell_of_row w5 gr _ cur _ (0, 0) h3]
            exact ⟨cur[d.length * 2 + 1]'(by omega), Array.getElem?_eq_getElem _⟩
        obtain ⟨z, hz⟩ := hcell
        obtain ⟨hgr1, hgr2⟩ := hgr
        have HE : Hid (JnI w (.func (.func fw) #[] #[]) (w3.heap.size + 2) (stF wt (pre ++ [(x0, x1, x2)])) ((w5.setCell ⟨gr, d.length * 2 + 1, none⟩ (.int .i64 (x0 - 1))).setCell ⟨w.heap.size + 3, 0, none⟩ (.bool false))) := Lib.hid (by
          rw [HST.out]
          have h8 := own_set hrow (i := d.length * 2 + 1) (by omega) (.int .i64 (x0 - 1))
          rw [set_to] at h8
          refine ⟨(HZ.out.2.2.2.1.far (by simp; omega) _).far (by simp) _, ⟨_, (HZ.out.2.1.far (by simp; omega) _).far (by simp) _, ?_⟩, (HZ.out.1.far (by simp; omega) _).far (by simp) _, (HZ.out.2.2.1.far (by simp; omega) _).set_ 0 _, (HB5.out.setCell (by simp; omega) _).setCell (by simp) _⟩
          have : OwnsS (w3.heap.size + 2) (.slice (some ⟨gr, 0, none⟩) (d.length + 1) cap) (d ++ [(f, x0 - 1)]) (w5.setCell ⟨gr, d.length * 2 + 1, none⟩ (.int .i64 (x0 - 1))) := by
            unfold OwnsS
            rw [List.length_append]
            exact h8
          have := this.far (b := w.heap.size + 3) (j := 0) (by omega) (.bool false)
          simpa [stO, stC] using this)
        have HE2 : Hid (KeepsFrom w3.heap.size W ((w5.setCell ⟨gr, d.length * 2 + 1, none⟩ (.int .i64 (x0 - 1))).setCell ⟨w.heap.size + 3, 0, none⟩ (.bool false)) ∧ KpB (w.heap.size + 4) g (w3.heap.size + 2) W ((w5.setCell ⟨gr, d.length * 2 + 1, none⟩ (.int .i64 (x0 - 1))).setCell ⟨w.heap.size + 3, 0, none⟩ (.bool false))) := Lib.hid (by
          have hkf : KeepsFrom w3.heap.size W (w5.setCell ⟨gr, d.length * 2 + 1, none⟩ (.int .i64 (x0 - 1))) := HKF.out.trans ((KeepsOthers.setCell _ _ _).from _)
          refine ⟨keepsFrom_set hkf (by omega) _, keepsFrom_mono (keepsFrom_set hkf (by omega) _) (by omega), fun k hk => ?_⟩
          have hk' : k = w.heap.size + 4 ∨ k = g := hk
          exact (Below.heap_setCell _ _ _ _ (by simp; omega)).trans ((Below.heap_setCell _ _ _ _ (by simp; omega)).trans (HKS.out k hk)))
        have n3 : ¬ gr = w.heap.size + 3 := by omega
        have n4 : ¬ w.heap.size + 3 = gr := by omega
        clear hr5 hv5 hrow
        gi_wp2_with fail
        exact ⟨HE2.out.1, HE2.out.2, HE.out⟩
  case done =>
    clear EG SQ HI3
    rintro D W hD hi hK
    obtain ⟨v, hv, hrow⟩ := hi.out
    have hc : W.cell? ⟨w.heap.size + 1, 0, none⟩ = some v := hv.cell 0
    have HB := Lib.hid hi.below
    have HR := Lib.hid hrow
    have HK := Lib.hid hK
    clear hi hrow hK hv
    gi_wp2_with fail
    refine ⟨by simp, .inl ⟨_, _, rfl, run_takeDeferred HK.out, ?_⟩⟩
    refine ⟨_, results_tmp rfl _ _ _, ?_⟩
    exact ⟨v, stO (stF wt (mrg L)), rfl, OwnsS.mono ⟨HR.out.1, HR.out.2.imp id fun ⟨g, cap, cur, h1, h2, h3, h4⟩ => ⟨g, cap, cur, h1, h2, (World.putObj_heap_other (by rintro rfl; rw [HK.out] at h3; cases h3)).trans h3, h4⟩⟩ (by omega), by rw [stF_sweep]; exact HN.out, below_put HB.out (by omega)⟩
  case stop =>
    rintro D c pre W hD hp hf hK
    exact hf.elim
end Go.Proofs.YtihadbkjfocdoaaGreatDoor.BW
namespace Go.Proofs.YtihadbkjfocdoaaGreatDoor.BW
open Go.RowKit BM Go.Shelf MC RK
open BK hiding ret_bool ret_i64

theorem spE_len {l : List (Int × Int)} (h : spE l = 0) : l.length ≤ 64 := by
  unfold spE at h
  split at h
  · cases h
  · omega
theorem spE_valid {l : List (Int × Int)} (h : spE l = 0) : ∀ u ∈ l, (0 ≤ u.1 ∧ u.1 ≤ u.2) ∧ u.2 ≤ 253402300799 := by
  unfold spE at h
  split at h
  · cases h
  · exact spL_ok h
set_option maxRecDepth 8000 in
set_option maxHeartbeats 4000000 in
theorem both_ok (wt : Bool → Bool → Bool) (hw0 : wt false false = false) (fw : Nat) (E : ∀ args w, (callFunc fw args).run Tryz.prog w = .ok (.enter fw args) w)
    (CW : ∀ a b W, Calls Tryz.prog fw #[.bool a, .bool b] W fun r w' => r = .returned (.bool (wt a b)) ∧ Below W.heap.size W w')
    (a b : List (Int × Int)) (aa ab : Option Addr) (na ca nb cb : Nat) (hna : a.length = na) (hnb : b.length = nb) (hea : spE a = 0) (heb : spE b = 0) (w : World) (ha : SpansAt w aa a) (hb : SpansAt w ab b) :
    Calls Tryz.prog 113 #[.slice aa na ca, .slice ab nb cb, .func (.func fw) #[] #[]] w fun r w' => ∃ v ys, r = .returned (.tuple #[v, .int .i64 0]) ∧ OwnsS w.heap.size v ys w' ∧ NormS (fun s => wt (a.any (inS s)) (b.any (inS s))) (-1) 0 ys ∧ Below w.heap.size w w' := by
  have hla := spE_len hea
  have hlb := spE_len heb
  have CA := Lib.hid (fun W (hW : Below w.heap.size w W) => bcheck_ok a aa na ca hna (by omega) W (ha.below hW))
  have CB := Lib.hid (fun W (hW : Below w.heap.size w W) => bcheck_ok b ab nb cb hnb (by omega) W (hb.below hW))
  rw [hea] at CA
  rw [heb] at CB
  have CJ := Lib.hid (fun W (hW : Below w.heap.size w W) => join_ok wt hw0 fw E CW a b aa ab na ca nb cb hna hnb (by omega) (by omega) (fun u hu => by have := spE_valid hea u hu; omega) (fun u hu => by have := spE_valid heb u hu; omega) W (ha.below hW) (hb.below hW))
  have IX0 := fun W => (idx_sl2 aa ab na ca nb cb W).1
  have IX1 := fun W => (idx_sl2 aa ab na ca nb cb W).2
  clear hna hnb hea heb ha hb hla hlb CW E hw0
  go_enter Tryz.func113, Tryz.ntmps113
  go_wp2_with fail
  go_loopw [14] (fun s14 wr => ∃ i : Nat, i ≤ 2 ∧ s14 = .int .i64 i ∧ Below w.heap.size w wr) (fun s14 _ => 2 - intM s14)
  case atStart => exact ⟨0, by omega, rfl, Below.refl _ _⟩
  case round =>
    obtain ⟨i, hi, rfl, hB⟩ := hrel
    have HB := Lib.hid hB
    clear hB
    rcases (show i = 0 ∨ i = 1 ∨ i = 2 by omega) with rfl | rfl | rfl
    · go_wp2_with fail
      refine (CA.out _ HB.out).mono ?_
      rintro e_ w2 ⟨rfl, hb⟩
      have HB2 := Lib.hid (HB.out.trans (hb.mono HB.out.size))
      clear hb
      go_wp2_with fail
      refine ⟨⟨1, by omega, by go_num, HB2.out⟩, ?_⟩
      simp [intM]
    · go_wp2_with fail
      refine (CB.out _ HB.out).mono ?_
      rintro e_ w2 ⟨rfl, hb⟩
      have HB2 := Lib.hid (HB.out.trans (hb.mono HB.out.size))
      clear hb
      go_wp2_with fail
      refine ⟨⟨2, by omega, by go_num, HB2.out⟩, ?_⟩
      simp [intM]
    · go_wp2_with fail
      refine (CJ.out _ HB.out).mono ?_
      rintro e_ w2 ⟨v, ys, rfl, ho, hn, hb⟩
      have HR := Lib.hid (And.intro (OwnsS.mono ho HB.out.size) (And.intro hn (HB.out.trans (hb.mono HB.out.size))))
      clear hb ho hn
      go_wp2_with fail
      go_ret2
      exact ⟨v, ys, rfl, HR.out⟩
theorem OwnsS.small {B : Nat} {v : Value} {ys : List (Int × Int)} {w : World} (h : OwnsS B v ys w) : ys.length ≤ 9223372036854775807 := by
  rcases h.2 with ⟨_, h0⟩ | ⟨g, cap, cur, _, _, _, h1, h2, _⟩
  · omega
  · unfold maxLen at h2; omega
def wOr (a b : Bool) : Bool := a || b
theorem union1_ok (a b : Bool) (W : World) : Calls Tryz.prog 114 #[.bool a, .bool b] W fun r w' => r = .returned (.bool (wOr a b)) ∧ Below W.heap.size W w' := by
  cases a <;> cases b <;>
  · go_enter Tryz.func114, Tryz.ntmps114
    go_wp2_with fail
    go_ret
    exact ⟨rfl, Below.refl _ _⟩
set_option maxHeartbeats 1000000 in
theorem union_ok (a b : List (Int × Int)) (aa ab : Option Addr) (na ca nb cb : Nat) (hna : a.length = na) (hnb : b.length = nb) (hea : spE a = 0) (heb : spE b = 0) (w : World) (ha : SpansAt w aa a) (hb : SpansAt w ab b) :
    Calls Tryz.prog 102 #[.slice aa na ca, .slice ab nb cb] w fun r w' => ∃ v ys, r = .returned (.tuple #[v, .int .i64 0]) ∧ OwnsS w.heap.size v ys w' ∧ NormS (fun s => a.any (inS s) || b.any (inS s)) (-1) 0 ys ∧ Below w.heap.size w w' := by
  have C := Lib.hid (both_ok wOr rfl 114 (enters_of Tryz.func114 (by kernel_rfl) rfl) union1_ok a b aa ab na ca nb cb hna hnb hea heb w ha hb)
  clear hna hnb hea heb ha hb
  go_enter Tryz.func102, Tryz.ntmps102
  go_wp2_with fail
  refine (C.out).mono ?_
  rintro e_ w2 ⟨v, ys, rfl, h⟩
  have H := Lib.hid h
  clear h
  go_wp2_with fail
  go_ret2
  exact ⟨v, ys, rfl, H.out⟩
theorem SpansAt.nil (w : World) (a : Option Addr) : SpansAt w a [] := fun _ hk => absurd hk (Nat.not_lt_zero _)
set_option maxHeartbeats 1000000 in
theorem normal_ok (a : List (Int × Int)) (aa : Option Addr) (na ca : Nat) (hna : a.length = na) (hea : spE a = 0) (w : World) (ha : SpansAt w aa a) :
    Calls Tryz.prog 84 #[.slice aa na ca] w fun r w' => ∃ v ys, r = .returned (.tuple #[v, .int .i64 0]) ∧ OwnsS w.heap.size v ys w' ∧ NormS (fun s => a.any (inS s) || [].any (inS s)) (-1) 0 ys ∧ Below w.heap.size w w' := by
  have C := Lib.hid (union_ok a [] aa none na ca 0 0 hna rfl hea rfl w ha (SpansAt.nil _ _))
  clear hna hea ha
  go_enter Tryz.func84, Tryz.ntmps84
  go_wp2_with fail
  refine (C.out).mono ?_
  rintro e_ w2 ⟨v, ys, rfl, h⟩
  have H := Lib.hid h
  clear h
  go_wp2_with fail
  go_ret2
  exact ⟨v, ys, rfl, H.out⟩
theorem fvN_drop (out : List (Int × Int)) (t : Int) (k : Nat) (hk : k < out.length) : fvN (out.drop k) t = if out[k].1 ≤ t ∧ t ≤ out[k].2 then out[k].2 + 1 else fvN (out.drop (k + 1)) t := by
  rw [List.drop_eq_getElem_cons hk]
  unfold fvN
  rw [List.find?_cons]
  have e : inS t out[k] = decide (out[k].1 ≤ t ∧ t ≤ out[k].2) := by unfold inS; simp
  rw [e]
  by_cases h : out[k].1 ≤ t ∧ t ≤ out[k].2
  · rw [decide_eq_true h, if_pos h]
  · rw [decide_eq_false h, if_neg h]
set_option maxRecDepth 8000 in
set_option maxHeartbeats 4000000 in
theorem free_ok (a : List (Int × Int)) (aa : Option Addr) (na ca : Nat) (hna : a.length = na) (hea : spE a = 0) (t : Int) (ht : 0 ≤ t ∧ t ≤ 253402300799) (w : World) (ha : SpansAt w aa a) :
    Calls Tryz.prog 54 #[.slice aa na ca, .int .i64 t] w fun r w' => r = .returned (.tuple #[.int .i64 ((frP (fun s => !a.any (inS s)) t).getD 0), .bool (frP (fun s => !a.any (inS s)) t).isSome, .int .i64 0]) ∧ Below w.heap.size w w' := by
  have CN := Lib.hid (normal_ok a aa na ca hna hea w ha)
  have CV := Lib.hid (fun w => bvalid_ok t w)
  have CV2 := Lib.hid (fun t w => bvalid_ok t w)
  have HV := Lib.hid (fun out (h : NormS (fun s => a.any (inS s) || [].any (inS s)) (-1) 0 out) => fvN_some h ht.1)
  have HW := Lib.hid (fun out (h : NormS (fun s => a.any (inS s) || [].any (inS s)) (-1) 0 out) => fvN_none h ht.1)
  have HU := Lib.hid (fun out (h : NormS (fun s => a.any (inS s) || [].any (inS s)) (-1) 0 out) => h.sp)
  have HF0 := Lib.hid (fun out (h : NormS (fun s => a.any (inS s) || [].any (inS s)) (-1) 0 out) => (fvN_free h ht.1).1)
  have HVA := Lib.hid (spE_valid hea)
  have hvt : vT t = true := by unfold vT; simp; omega
  rw [hvt] at CV
  obtain ⟨R, hR⟩ : ∃ R, R = frP (fun s => !a.any (inS s)) t := ⟨_, rfl⟩
  rw [← hR] at HV HW ⊢
  obtain ⟨R0, hR0⟩ : ∃ x, x = R.getD 0 := ⟨_, rfl⟩
  obtain ⟨R1, hR1⟩ : ∃ x, x = R.isSome := ⟨_, rfl⟩
  rw [← hR0, ← hR1]
  have HR0 := Lib.hid hR0
  have HR1 := Lib.hid hR1
  clear hna hea ha hR hvt hR0 hR1
  go_enter Tryz.func54, Tryz.ntmps54
  go_wp2_with fail
  refine (CN.out).mono ?_
  rintro e_ w2 ⟨v, ys, rfl, ho, hn, hb⟩
  obtain ⟨ad, cap, rfl, hs⟩ := ho.shape
  have HV2 := Lib.hid (HV.out ys hn)
  have HW2 := Lib.hid (HW.out ys hn)
  have HU2 := Lib.hid (HU.out ys hn)
  have HF := Lib.hid (HF0.out ys hn)
  have hlen := ho.small
  have HB := Lib.hid hb
  have HS := Lib.hid hs
  have HUV : Hid (∀ k (hk : k < ys.length), ys[k].2 ≤ 253402300799) := Lib.hid (fun k hk => by
    obtain ⟨h1, h2, h3, _, h5⟩ := hn.sp _ (List.getElem_mem hk)
    have h6 := h5 ys[k].2 h3 h2 (Int.le_refl _)
    simp only [List.any_nil, Bool.or_false] at h6
    obtain ⟨u, hu, hi⟩ := List.any_eq_true.1 h6
    have := HVA.out u hu
    unfold inS at hi
    simp only [Bool.and_eq_true, decide_eq_true_eq] at hi
    omega)
  clear ho hn hb hs HV HW HU CN HF0 HVA
  obtain ⟨m, hm⟩ : ∃ m, m = ys.length := ⟨_, rfl⟩
  rw [← hm] at hlen ⊢
  have HM := Lib.hid hm
  clear hm
  go_wp2_with fail
  refine (CV.out _).mono ?_
  rintro e_ w3 ⟨rfl, rfl⟩
  go_wp2_with fail
  go_loopw [1, 24] (fun s1 s24 wr => ∃ k : Nat, k ≤ m ∧ s1 = .int .i64 t ∧ s24 = .int .i64 k ∧ Below w2.heap.size w2 wr ∧ fvN (ys.drop k) t = fvN ys t) (fun _ s24 _ => m - intM s24)
  case atStart => exact ⟨0, Nat.zero_le _, rfl, rfl, Below.refl _ _, rfl⟩
  case round =>
    obtain ⟨k, hk, rfl, rfl, hB, hd⟩ := hrel
    have HB3 := Lib.hid (HB.out.trans (hB.mono HB.out.size))
    have HB2 := Lib.hid hB
    have HD := Lib.hid hd
    clear hd
    rcases Nat.lt_or_ge k m with hlt | hge
    · have hkl : k < ys.length := by have := HM.out; omega
      have HK := Lib.hid (fvN_drop ys t k hkl)
      obtain ⟨b, off, rfl, h1, h2⟩ := HS.out k hkl
      have h1 := (hB.cell (p := ⟨b, off + k * 2, none⟩) (World.block_lt_of_cell? _ _ h1)).trans h1
      have h2 := (hB.cell (p := ⟨b, off + k * 2 + 1, none⟩) (World.block_lt_of_cell? _ _ h2)).trans h2
      have hu9 := HUV.out k hkl
      generalize ys[k].1 = f at *
      generalize ys[k].2 = u at *
      clear hB
      by_cases ha : f ≤ t
      · have d1 : decide (f ≤ t) = true := decide_eq_true ha
        by_cases hb : t ≤ u
        · have d2 : decide (t ≤ u) = true := decide_eq_true hb
          have HE : Hid (fvN ys t = u + 1) := Lib.hid (by have h := HK.out; rw [if_pos ⟨ha, hb⟩] at h; rw [← HD.out, h])
          have hwr : IntKind.i64.wrap (u + 1) = u + 1 := IntWalk.i64_in _ (by omega)
          by_cases hu : u + 1 ≤ 253402300799
          · have HR : Hid (R = some (u + 1)) := Lib.hid (by rw [← HE.out]; exact HV2.out (by rw [HE.out]; exact hu))
            have CV3 := Lib.hid (fun w => CV2.out (u + 1) w)
            rw [show vT (u + 1) = true from by unfold vT; simp; omega] at CV3
            clear hu9 hu ha hb
            go_wp2_with fail
            refine (CV3.out _).mono ?_
            rintro e_ w4 ⟨rfl, rfl⟩
            go_wp2_with fail
            go_ret3
            exact ⟨ret_ibeX (by rw [HR0.out, HR.out]; rfl) (by rw [HR1.out, HR.out]; rfl) rfl, HB3.out.alloc HB3.out.size _⟩
          · have HR : Hid (R = none) := Lib.hid (HW2.out (by rw [HE.out]; omega))
            have CV3 := Lib.hid (fun w => CV2.out (u + 1) w)
            rw [show vT (u + 1) = false from by unfold vT; simp; omega] at CV3
            clear hu9 hu ha hb
            go_wp2_with fail
            refine (CV3.out _).mono ?_
            rintro e_ w4 ⟨rfl, rfl⟩
            go_wp2_with fail
            go_ret3
            exact ⟨ret_ibeX (by rw [HR0.out, HR.out]; rfl) (by rw [HR1.out, HR.out]; rfl) rfl, HB3.out.alloc HB3.out.size _⟩
        · have d2 : decide (t ≤ u) = false := decide_eq_false hb
          have HD2 : Hid (fvN (ys.drop (k + 1)) t = fvN ys t) := Lib.hid (by have h := HK.out; rw [if_neg (fun hh => hb hh.2)] at h; rw [← h]; exact HD.out)
          clear hb ha hu9
          go_wp2_with fail
          refine ⟨⟨k + 1, by omega, rfl, by go_num, HB2.out.alloc HB2.out.size _, HD2.out⟩, ?_⟩
          simp [intM]; omega
      · have d1 : decide (f ≤ t) = false := decide_eq_false ha
        have HD2 : Hid (fvN (ys.drop (k + 1)) t = fvN ys t) := Lib.hid (by have h := HK.out; rw [if_neg (fun hh => ha hh.1)] at h; rw [← h]; exact HD.out)
        clear ha hu9
        go_wp2_with fail
        refine ⟨⟨k + 1, by omega, rfl, by go_num, HB2.out.alloc HB2.out.size _, HD2.out⟩, ?_⟩
        simp [intM]; omega
    · obtain rfl : m = k := by omega
      have HE : Hid (fvN ys t = t) := Lib.hid (by rw [← HD.out, List.drop_eq_nil_of_le (by have := HM.out; omega)]; rfl)
      have HR : Hid (R = some t) := Lib.hid (by rw [← HE.out]; exact HV2.out (by rw [HE.out]; exact ht.2))
      go_wp2_with fail
      refine (CV.out _).mono ?_
      rintro e_ w4 ⟨rfl, rfl⟩
      go_wp2_with fail
      go_ret3
      exact ⟨ret_ibeX (by rw [HR0.out, HR.out]; rfl) (by rw [HR1.out, HR.out]; rfl) rfl, HB3.out⟩
end Go.Proofs.YtihadbkjfocdoaaGreatDoor.BW
