/- Walk of PlanSkips: a further span takes away its own times and no other. -/
import Derived.Test.YtmkdjdfhkhmejaaGreatDoorPSkM
namespace Go.Proofs.YtmkdjdfhkhmejaaGreatDoor.BW
open Go.RowKit BM Go.Shelf MC RK
open BK hiding ret_bool ret_i64

/-- A plan's box, the further span's, and one more. -/
structure SkJ (w : World) (p : Pl) (f u : Int) (b : Nat) (yv : Array Value) (W : World) : Prop where
  xb : Blk W w.heap.size 29 (plV p)
  fb : Blk W (w.heap.size + 1) 54 #[.int .i64 f, .int .i64 u]
  yb : Blk W b 29 yv
  below : Below w.heap.size w W
theorem SkJ.next {w : World} {p : Pl} {f u : Int} {b : Nat} {yv : Array Value} {X Y : World} (h : SkJ w p f u b yv X) (hb : Below X.heap.size X Y) : SkJ w p f u b yv Y :=
  ⟨h.xb.below hb h.xb.lt, h.fb.below hb h.fb.lt, h.yb.below hb h.yb.lt, h.below.trans (hb.mono h.below.size)⟩
theorem SkJ.cells {w : World} {p : Pl} {f u : Int} {b : Nat} {yv : Array Value} {W : World} (h : SkJ w p f u b yv W) : W.cell? ⟨w.heap.size, 0, none⟩ = some (.int .i64 p.k) ∧ W.cell? ⟨w.heap.size, 1, none⟩ = some (.int .u64 p.x.s) ∧ W.cell? ⟨w.heap.size, 2, none⟩ = some (.int .u64 p.x.mi) ∧ W.cell? ⟨w.heap.size, 3, none⟩ = some (.int .u64 p.x.h) ∧ W.cell? ⟨w.heap.size, 4, none⟩ = some (.int .u64 p.x.d) ∧ W.cell? ⟨w.heap.size, 5, none⟩ = some (.int .u64 p.x.mo) ∧ W.cell? ⟨w.heap.size, 6, none⟩ = some (.int .u64 p.x.w) ∧ W.cell? ⟨w.heap.size, 7, none⟩ = some (.bool p.x.ad) ∧ W.cell? ⟨w.heap.size, 8, none⟩ = some (.bool p.x.aw) ∧ W.cell? ⟨w.heap.size, 9, none⟩ = some (.int .i64 p.z) ∧ W.cell? ⟨w.heap.size, 10, none⟩ = some (.int .i64 p.e.s) ∧ W.cell? ⟨w.heap.size, 11, none⟩ = some (.int .i64 p.e.p) ∧ W.cell? ⟨w.heap.size, 12, none⟩ = some (.int .i64 p.e.c) ∧ W.cell? ⟨w.heap.size, 13, none⟩ = some (.slice p.a p.n p.c) :=
  ⟨h.xb.cell 0, h.xb.cell 1, h.xb.cell 2, h.xb.cell 3, h.xb.cell 4, h.xb.cell 5, h.xb.cell 6, h.xb.cell 7, h.xb.cell 8, h.xb.cell 9, h.xb.cell 10, h.xb.cell 11, h.xb.cell 12, h.xb.cell 13⟩
theorem SkJ.three {w : World} {p : Pl} {f u : Int} {b : Nat} {yv : Array Value} {W : World} (h : SkJ w p f u b yv W) : W.cell? ⟨w.heap.size, 13, none⟩ = some (.slice p.a p.n p.c) ∧ W.cell? ⟨w.heap.size + 1, 0, none⟩ = some (.int .i64 f) ∧ W.cell? ⟨w.heap.size + 1, 1, none⟩ = some (.int .i64 u) :=
  ⟨h.xb.cell 13, h.fb.cell 0, h.fb.cell 1⟩
theorem SkJ.cellsB {w : World} {p : Pl} {f u : Int} {b : Nat} {W : World} (h : SkJ w p f u b (plV p.bare) W) : W.cell? ⟨b, 0, none⟩ = some (.int .i64 p.k) ∧ W.cell? ⟨b, 1, none⟩ = some (.int .u64 p.x.s) ∧ W.cell? ⟨b, 2, none⟩ = some (.int .u64 p.x.mi) ∧ W.cell? ⟨b, 3, none⟩ = some (.int .u64 p.x.h) ∧ W.cell? ⟨b, 4, none⟩ = some (.int .u64 p.x.d) ∧ W.cell? ⟨b, 5, none⟩ = some (.int .u64 p.x.mo) ∧ W.cell? ⟨b, 6, none⟩ = some (.int .u64 p.x.w) ∧ W.cell? ⟨b, 7, none⟩ = some (.bool p.x.ad) ∧ W.cell? ⟨b, 8, none⟩ = some (.bool p.x.aw) ∧ W.cell? ⟨b, 9, none⟩ = some (.int .i64 p.z) ∧ W.cell? ⟨b, 10, none⟩ = some (.int .i64 p.e.s) ∧ W.cell? ⟨b, 11, none⟩ = some (.int .i64 p.e.p) ∧ W.cell? ⟨b, 12, none⟩ = some (.int .i64 p.e.c) ∧ W.cell? ⟨b, 13, none⟩ = some (.slice none 0 0) :=
  ⟨h.yb.cell 0, h.yb.cell 1, h.yb.cell 2, h.yb.cell 3, h.yb.cell 4, h.yb.cell 5, h.yb.cell 6, h.yb.cell 7, h.yb.cell 8, h.yb.cell 9, h.yb.cell 10, h.yb.cell 11, h.yb.cell 12, h.yb.cell 13⟩
theorem SkJ.cellsM {w : World} {p : Pl} {f u : Int} {b : Nat} {a : Option Addr} {c : Nat} {W : World} (h : SkJ w p f u b (plV (p.more a c)) W) : W.cell? ⟨b, 0, none⟩ = some (.int .i64 p.k) ∧ W.cell? ⟨b, 1, none⟩ = some (.int .u64 p.x.s) ∧ W.cell? ⟨b, 2, none⟩ = some (.int .u64 p.x.mi) ∧ W.cell? ⟨b, 3, none⟩ = some (.int .u64 p.x.h) ∧ W.cell? ⟨b, 4, none⟩ = some (.int .u64 p.x.d) ∧ W.cell? ⟨b, 5, none⟩ = some (.int .u64 p.x.mo) ∧ W.cell? ⟨b, 6, none⟩ = some (.int .u64 p.x.w) ∧ W.cell? ⟨b, 7, none⟩ = some (.bool p.x.ad) ∧ W.cell? ⟨b, 8, none⟩ = some (.bool p.x.aw) ∧ W.cell? ⟨b, 9, none⟩ = some (.int .i64 p.z) ∧ W.cell? ⟨b, 10, none⟩ = some (.int .i64 p.e.s) ∧ W.cell? ⟨b, 11, none⟩ = some (.int .i64 p.e.p) ∧ W.cell? ⟨b, 12, none⟩ = some (.int .i64 p.e.c) ∧ W.cell? ⟨b, 13, none⟩ = some (.slice a (p.n + 1) c) :=
  ⟨h.yb.cell 0, h.yb.cell 1, h.yb.cell 2, h.yb.cell 3, h.yb.cell 4, h.yb.cell 5, h.yb.cell 6, h.yb.cell 7, h.yb.cell 8, h.yb.cell 9, h.yb.cell 10, h.yb.cell 11, h.yb.cell 12, h.yb.cell 13⟩
theorem bel1 (W : World) (o : Obj) : Below W.heap.size W (W.drew.alloc o) := (Below.refl _ W).drew.alloc (Nat.le_refl _) o
theorem bel2 (W : World) (o o' : Obj) : Below W.heap.size W ((W.drew.alloc o).alloc o') := (bel1 W o).alloc (bel1 W o).size o'
theorem fin_below {W X Y : World} {e : TypeId} {size n : Nat} {v : Value} {xs : List Value} (hg : X.grownBy Y v.ownBlock) (hX : Below W.heap.size W X) (hrow : X.ownsRow W.heap.size e size v n xs) : Below W.heap.size W Y :=
  hX.grown hg hX.size (fun k hk => (hrow.lt k hk).1)
theorem below_a {W X Y : World} {g c : Nat} (hg : X.grownBy Y (Value.ownBlock (.slice (some ⟨g, 0, none⟩) 0 c))) (hX : Below W.heap.size W X) (hge : W.heap.size ≤ g) : Below W.heap.size W Y :=
  hX.grown hg hX.size (fun k hk => by simp [Value.ownBlock] at hk; omega)
theorem made3 (W : World) (o : Obj) : ((W.drew.alloc o).alloc (.cells #[] 54)).ownsRow W.heap.size 54 2 (.slice (some ⟨W.heap.size + 1, 0, none⟩) 0 0) 0 [] := by
  have h := World.ownsRow_made (base := W.heap.size) (e := 54) (size := 2) (W.drew.alloc o) #[] 0 (bel1 W o).size (Nat.zero_le _) rfl
  rwa [show (W.drew.alloc o).heap.size = W.heap.size + 1 by simp] at h
theorem row_of {l : List (Int × Int)} {n B : Nat} {v : Value} {w : World} (hn : l.length = n) (h : w.ownsRow B 54 2 v (0 + n) ([] ++ cellsS l)) : w.ownsRow B 54 2 v l.length (cellsS l) := by
  rw [hn]; simpa using h
theorem row_snoc {l : List (Int × Int)} {B : Nat} {v : Value} {w : World} {f u : Int} (h : w.ownsRow B 54 2 v (l.length + 1) (cellsS l ++ [.int .i64 f, .int .i64 u])) : OwnsS B v (l ++ [(f, u)]) w := by
  unfold OwnsS
  rw [cellsS_snoc]
  simpa using h
theorem blk_two2 {W Y : World} {o : Obj} {T : TypeId} {cs : Array Value} {c : Nat} (h : ((W.drew.alloc o).alloc (.cells cs T)).grownBy Y (Value.ownBlock (.slice (some ⟨W.heap.size, 0, none⟩) 0 c))) : Blk Y (W.heap.size + 1) T cs :=
  Blk.grown (Blk.newAt (by simp)) h (by simp [Value.ownBlock])
theorem blk_two3 {W Y : World} {o : Obj} {T : TypeId} {cs : Array Value} {c : Nat} (h : ((W.drew.alloc (.cells cs T)).alloc o).grownBy Y (Value.ownBlock (.slice (some ⟨W.heap.size + 1, 0, none⟩) 0 c))) : Blk Y W.heap.size T cs :=
  Blk.grown ((Blk.new W.drew T cs).alloc o) h (by simp [Value.ownBlock])
theorem skj_fin {w X : World} {p : Pl} {l : List (Int × Int)} {f u : Int} {b B n c : Nat} {a : Option Addr} (h : SkJ w p f u b (plV p) X) (hb : w.heap.size + 1 < b) (hB : b < B) (hO : OwnsS B (.slice a n c) (l ++ [(f, u)]) X) (hn : n = p.n + 1) :
    SkJ w p f u b (plV (p.more a c)) (X.setCell ⟨b, 13, none⟩ (.slice a n c)) ∧ SpansAt (X.setCell ⟨b, 13, none⟩ (.slice a n c)) a (l ++ [(f, u)]) := by
  subst hn
  refine ⟨⟨h.xb.far (by show w.heap.size ≠ b; omega) _, h.fb.far (by show w.heap.size + 1 ≠ b; omega) _, h.yb.set_ 13 _, h.below.setCell (by show w.heap.size ≤ b; omega) _⟩, ?_⟩
  obtain ⟨a', c', e, hs⟩ := (hO.far hB (.slice a (p.n + 1) c) (j := 13)).shape
  injection e with e1 e2 e3
  subst e1
  exact hs
set_option maxRecDepth 100000 in
set_option maxHeartbeats 16000000 in
theorem lskips_ok (p : Pl) (l : List (Int × Int)) (t f u : Int) (w : World) (hp : PIn w p l) (hT : SpTab w) (hTab : Tab w) : Calls Tryz.prog 7 #[.agg (plV p), .int .i64 t, .agg #[.int .i64 f, .int .i64 u]] w fun e w' => e = .returned (.bool true) ∧ Below w.heap.size w w' := by
  obtain ⟨i0, hi0, hz0, hz1, hz2⟩ := info_parts info_sp
  obtain ⟨W0, hW0⟩ : ∃ W0, W0 = (w.alloc (.cells (plV p) 29)).alloc (.cells #[.int .i64 f, .int .i64 u] 54) := ⟨_, rfl⟩
  have HI : Hid (SkJ w p f u w.heap.size (plV p) W0) := Lib.hid (by rw [hW0]; exact ⟨(Blk.new w _ _).alloc _, Blk.newAt (by simp), (Blk.new w _ _).alloc _, ((Below.refl _ w).alloc (Nat.le_refl _) _).alloc (by simp) _⟩)
  have CW := Lib.hid (fun W (h : Below w.heap.size w W) => plworks_ok W (hT.below h) (tab_below hTab h (World.block_lt_of_cell? w _ (hTab 0 (by decide)))))
  have e0 : plV p = #[.int .i64 p.k, .int .u64 p.x.s, .int .u64 p.x.mi, .int .u64 p.x.h, .int .u64 p.x.d, .int .u64 p.x.mo, .int .u64 p.x.w, .bool p.x.ad, .bool p.x.aw, .int .i64 p.z, .int .i64 p.e.s, .int .i64 p.e.p, .int .i64 p.e.c, .slice p.a p.n p.c] := rfl
  by_cases h63 : 63 < p.n
  · have d1 : decide (63 < p.n) = true := decide_eq_true h63
    have d1' : decide ((63 : Int) < p.n) = true := decide_eq_true (by omega)
    have CW0 := Lib.hid (CW.out W0 HI.out.below)
    rw [hW0] at CW0
    have HBW := Lib.hid HI.out.below
    have HW0 := Lib.hid hW0
    rw [e0] at CW0 ⊢
    clear hT hTab hp h63 HI hW0 CW
    go_enter Tryz.func7, Tryz.ntmps7
    go_wp2_with fail
    refine (CW0.out).mono ?_
    rintro e w2 ⟨rfl, hb⟩
    go_wp2_with fail
    go_ret
    refine ⟨rfl, ?_⟩
    have hb' : Below W0.heap.size W0 w2 := by rw [HW0.out, e0]; exact hb
    exact HBW.out.trans (hb'.mono HBW.out.size)
  have d1 : decide (63 < p.n) = false := decide_eq_false h63
  have d1' : decide ((63 : Int) < p.n) = false := decide_eq_false (by omega)
  have h200 : p.n ≤ 200 := by omega
  have HA := Lib.hid (fun W (h : Below w.heap.size w W) => (hp.arg h200 hT hTab).below h)
  have CK := Lib.hid (plcheck_ok p l W0 (HA.out _ HI.out.below))
  rw [hW0, e0] at CK
  have HLN := Lib.hid hp.n
  have HL63 := Lib.hid (show l.length ≤ 63 by rw [hp.n]; omega)
  have HW0 := Lib.hid hW0
  rcases plE_cases p l with hE | hE
  rotate_left
  · rw [hE] at CK
    rw [e0]
    clear hT hTab hp h63 hW0 h200 hE
    have E0 := Lib.hid e0
    clear e0
    go_enter Tryz.func7, Tryz.ntmps7
    go_wp2_with fail
    refine (CK.out).mono ?_
    rintro e w2 ⟨rfl, hb⟩
    have hb' : Below W0.heap.size W0 w2 := by rw [HW0.out, E0.out]; exact hb
    have HI := Lib.hid (HI.out.next hb')
    clear hb hb'
    go_wp2_with fail
    refine (CW.out _ HI.out.below).mono ?_
    rintro e w9 ⟨rfl, hb⟩
    have HBE := Lib.hid (HI.out.below.trans (hb.mono HI.out.below.size))
    clear hb
    go_wp2_with fail
    go_ret
    exact ⟨rfl, HBE.out⟩
  rw [hE] at CK
  by_cases hk : p.k = 0
  · have dk : (p.k == 0) = true := by rw [hk]; rfl
    have dk' : decide (p.k = 0) = true := decide_eq_true hk
    rw [e0]
    clear hT hTab hp h63 hW0 h200 hE hk
    have E0 := Lib.hid e0
    clear e0
    go_enter Tryz.func7, Tryz.ntmps7
    go_wp2_with fail
    refine (CK.out).mono ?_
    rintro e w2 ⟨rfl, hb⟩
    have hb' : Below W0.heap.size W0 w2 := by rw [HW0.out, E0.out]; exact hb
    have HI := Lib.hid (HI.out.next hb')
    clear hb hb'
    have ck0 : w2.cell? ⟨w.heap.size, 0, none⟩ = some (.int .i64 p.k) := HI.out.xb.cell 0
    go_wp2_with fail
    refine (CW.out _ HI.out.below).mono ?_
    rintro e w9 ⟨rfl, hb⟩
    have HBE := Lib.hid (HI.out.below.trans (hb.mono HI.out.below.size))
    clear hb
    go_wp2_with fail
    go_ret
    exact ⟨rfl, HBE.out⟩
  have dk : (p.k == 0) = false := by rw [beq_eq_false_iff_ne]; exact hk
  have dk' : decide (p.k = 0) = false := decide_eq_false hk
  obtain ⟨hpk, hsp0⟩ := plE_ok hE
  have HPK := Lib.hid (And.intro hk (And.intro hpk (And.intro hsp0 hE)))
  have HEB : Hid (plE p.bare [] = 0) := Lib.hid (plE_of (by rw [plK_bare hk]; exact hpk) rfl)
  have HU := Lib.hid hp.x
  have HN0 : Hid (p.a = none → p.n = 0) := Lib.hid (fun e => by
    by_cases h0 : p.n = 0
    · exact h0
    · obtain ⟨b, off, e', _⟩ := hp.at_ 0 (by rw [hp.n]; omega)
      rw [e] at e'; cases e')
  have CI := Lib.hid (fun W (h : Below w.heap.size w W) => plis_ok p l t W (HA.out W h))
  have CB := Lib.hid (fun W (h : Below w.heap.size w W) => plis_ok p.bare [] t W ⟨HU.out, rfl, (show (0 : Nat) < 9223372036854775807 by decide), SpansAt.nil _ _, (HA.out W h).sp, (HA.out W h).tab⟩)
  have CN_ := Lib.hid (fun W (h : Below w.heap.size w W) => bin_ok l p.a p.n p.c t hp.n (by omega) W (HA.out W h).at_)
  have CK2 := Lib.hid (fun a c W (h : Below w.heap.size w W) (hs : SpansAt W a (l ++ [(f, u)])) => plcheck_ok (p.more a c) (l ++ [(f, u)]) W ⟨HU.out, by rw [List.length_append, HLN.out]; rfl, (show p.n + 1 < 9223372036854775807 by omega), hs, (HA.out W h).sp, (HA.out W h).tab⟩)
  have CI2 := Lib.hid (fun a c W (h : Below w.heap.size w W) (hs : SpansAt W a (l ++ [(f, u)])) => plis_ok (p.more a c) (l ++ [(f, u)]) t W ⟨HU.out, by rw [List.length_append, HLN.out]; rfl, (show p.n + 1 < 9223372036854775807 by omega), hs, (HA.out W h).sp, (HA.out W h).tab⟩)
  have eb : plV p.bare = #[.int .i64 p.k, .int .u64 p.x.s, .int .u64 p.x.mi, .int .u64 p.x.h, .int .u64 p.x.d, .int .u64 p.x.mo, .int .u64 p.x.w, .bool p.x.ad, .bool p.x.aw, .int .i64 p.z, .int .i64 p.e.s, .int .i64 p.e.p, .int .i64 p.e.c, .slice none 0 0] := rfl
  have em : ∀ a c, plV (p.more a c) = #[.int .i64 p.k, .int .u64 p.x.s, .int .u64 p.x.mi, .int .u64 p.x.h, .int .u64 p.x.d, .int .u64 p.x.mo, .int .u64 p.x.w, .bool p.x.ad, .bool p.x.aw, .int .i64 p.z, .int .i64 p.e.s, .int .i64 p.e.p, .int .i64 p.e.c, .slice a (p.n + 1) c] := fun _ _ => rfl
  rw [e0] at CI
  rw [eb] at CB
  simp only [em] at CK2 CI2
  have E0 := Lib.hid e0
  have EB := Lib.hid eb
  rw [e0]
  clear hT hTab hp h63 hW0 hE hk hpk hsp0 e0 eb em
  go_enter Tryz.func7, Tryz.ntmps7
  go_wp2_with fail
  refine (CK.out).mono ?_
  rintro e w2 ⟨rfl, hb⟩
  have hb' : Below W0.heap.size W0 w2 := by rw [HW0.out, E0.out]; exact hb
  have HI := Lib.hid (HI.out.next hb')
  clear hb hb' CK HW0
  obtain ⟨c0, c1, c2, c3, c4, c5, c6, c7, c8, c9, c10, c11, c12, c13⟩ := HI.out.cells
  have hl1 : w.heap.size < w2.heap.size := HI.out.xb.lt
  have hl2 : w.heap.size + 1 < w2.heap.size := HI.out.fb.lt
  go_upto_region 5 with fail
  obtain ⟨W5, hW5⟩ : ∃ W5, W5 = w2.alloc (.cells #[.int .i64 p.k, .int .u64 p.x.s, .int .u64 p.x.mi, .int .u64 p.x.h, .int .u64 p.x.d, .int .u64 p.x.mo, .int .u64 p.x.w, .bool p.x.ad, .bool p.x.aw, .int .i64 p.z, .int .i64 p.e.s, .int .i64 p.e.p, .int .i64 p.e.c, .slice none 0 0] 29) := ⟨_, rfl⟩
  have HJ : Hid (SkJ w p f u w2.heap.size (plV p.bare) W5) := Lib.hid (by
    rw [hW5]
    exact ⟨HI.out.xb.alloc _, HI.out.fb.alloc _, Blk.new w2 _ _, HI.out.below.alloc HI.out.below.size _⟩)
  rw [← hW5]
  clear hW5 HI c0 c1 c2 c3 c4 c5 c6 c7 c8 c9 c10 c11 c12 c13
  obtain ⟨c0, c1, c2, c3, c4, c5, c6, c7, c8, c9, c10, c11, c12, c13⟩ := HJ.out.cells
  cases hv : vT t with
  | false =>
    have hF : finE p l [t] = 14 := by rw [fin_of HPK.out.2.2.2, timesR_vT, hv]; rfl
    have hF2 : finE p.bare [] [t] = 14 := by rw [fin_of HEB.out, timesR_vT, hv]; rfl
    have hN : inE l t = 14 := by unfold inE; rw [if_pos HPK.out.2.2.1, hv]; rfl
    have hN2 : inV l t = false := by unfold inV; rw [hN]; rfl
    rw [hF] at CI
    rw [hF2] at CB
    rw [hN, hN2] at CN_
    clear hF hF2 hN hN2 hv
    simp only [show decide ((14 : Int) = 0) = false from rfl, Bool.false_and] at CI CB
    go_wp2_with fail
    refine (CI.out _ HJ.out.below).mono ?_
    rintro e w3 ⟨rfl, hb⟩
    have HJ := Lib.hid (HJ.out.next hb)
    clear hb c0 c1 c2 c3 c4 c5 c6 c7 c8 c9 c10 c11 c12 c13
    obtain ⟨k0, k1, k2, k3, k4, k5, k6, k7, k8, k9, k10, k11, k12, k13⟩ := HJ.out.cellsB
    go_wp2_with fail
    refine (CB.out _ HJ.out.below).mono ?_
    rintro e w4 ⟨rfl, hb⟩
    have HJ := Lib.hid (HJ.out.next hb)
    clear hb k0 k1 k2 k3 k4 k5 k6 k7 k8 k9 k10 k11 k12 k13
    obtain ⟨c0, c1, c2, c3, c4, c5, c6, c7, c8, c9, c10, c11, c12, c13⟩ := HJ.out.cells
    go_wp2_with fail
    refine (CN_.out _ HJ.out.below).mono ?_
    rintro e w6 ⟨rfl, hb⟩
    have HJ := Lib.hid (HJ.out.next hb)
    clear hb c0 c1 c2 c3 c4 c5 c6 c7 c8 c9 c10 c11 c12 c13
    go_wp2_with fail
    refine (CW.out _ HJ.out.below).mono ?_
    rintro e w9 ⟨rfl, hb⟩
    have HBE := Lib.hid (HJ.out.below.trans (hb.mono HJ.out.below.size))
    clear hb
    go_wp2_with fail
    go_ret
    exact ⟨rfl, HBE.out⟩
  | true =>
    have hF : finE p l [t] = 0 := by rw [fin_of HPK.out.2.2.2, timesR_vT, hv]; rfl
    have hF2 : finE p.bare [] [t] = 0 := by rw [fin_of HEB.out, timesR_vT, hv]; rfl
    have hN : inE l t = 0 := by unfold inE; rw [if_pos HPK.out.2.2.1, hv]; rfl
    have hN2 : inV l t = l.any (inS t) := by unfold inV; rw [hN]; rfl
    obtain ⟨h8, hh8⟩ : ∃ h8, (qK p t && !l.any (inS t)) = h8 := ⟨_, rfl⟩
    have HM : Hid (∀ a c, plE (p.more a c) (l ++ [(f, u)]) = 0 → (decide (finE (p.more a c) (l ++ [(f, u)]) [t] = 0) && isP (p.more a c) (l ++ [(f, u)]) t) = (h8 && (decide (t < f) || decide (u < t))) ∧ finE (p.more a c) (l ++ [(f, u)]) [t] = 0) := Lib.hid (fun a c h => by
      have hG : finE (p.more a c) (l ++ [(f, u)]) [t] = 0 := by rw [fin_of h, timesR_vT, hv]; rfl
      refine ⟨?_, hG⟩
      rw [hG, isP_one, qK_more, any_snoc, ← hh8, show decide (f ≤ t) = !decide (t < f) by rw [← decide_not]; exact decide_eq_decide.2 (by omega), show decide (t ≤ u) = !decide (u < t) by rw [← decide_not]; exact decide_eq_decide.2 (by omega)]
      cases qK p t <;> cases l.any (inS t) <;> cases decide (t < f) <;> cases decide (u < t) <;> rfl)
    rw [hF, isP_one, hh8] at CI
    rw [hF2, isP_one, qK_bare] at CB
    rw [hN, hN2] at CN_
    have HH8 := Lib.hid hh8
    generalize qK p t = Q at *
    generalize l.any (inS t) = A at *
    clear hF hF2 hN hN2 hv hh8
    simp only [List.any_nil, Bool.not_false, Bool.and_true] at CI CB
    go_wp2_with fail
    refine (CI.out _ HJ.out.below).mono ?_
    rintro e w3 ⟨rfl, hb⟩
    have HJ := Lib.hid (HJ.out.next hb)
    clear hb c0 c1 c2 c3 c4 c5 c6 c7 c8 c9 c10 c11 c12 c13
    obtain ⟨k0, k1, k2, k3, k4, k5, k6, k7, k8, k9, k10, k11, k12, k13⟩ := HJ.out.cellsB
    go_wp2_with fail
    refine (CB.out _ HJ.out.below).mono ?_
    rintro e w4 ⟨rfl, hb⟩
    have HJ := Lib.hid (HJ.out.next hb)
    clear hb k0 k1 k2 k3 k4 k5 k6 k7 k8 k9 k10 k11 k12 k13
    obtain ⟨c0, c1, c2, c3, c4, c5, c6, c7, c8, c9, c10, c11, c12, c13⟩ := HJ.out.cells
    go_wp2_with fail
    refine (CN_.out _ HJ.out.below).mono ?_
    rintro e w6 ⟨rfl, hb⟩
    have HJ := Lib.hid (HJ.out.next hb)
    clear hb c0 c1 c2 c3 c4 c5 c6 c7 c8 c9 c10 c11 c12 c13 CI CB CN_
    go_upto_region 10 with fail
    go_cut [75] from 61 to 74 (fun s75 wx => s75 = .bool false ∧ wx = w6)
    case first =>
      have hh := HH8.out
      cases Q <;> cases A <;> simp only [Bool.not_false, Bool.not_true, Bool.and_true, Bool.and_false] at hh <;> subst hh <;> (go_wp2_with fail; go_meet; exact ⟨rfl, rfl⟩)
    case rest =>
      obtain ⟨rfl, rfl⟩ := hcut
      obtain ⟨c0, c1, c2, c3, c4, c5, c6, c7, c8, c9, c10, c11, c12, c13⟩ := HJ.out.cells
      have hl1 : w.heap.size < wc.heap.size := HJ.out.xb.lt
      have hl2 : w.heap.size + 1 < wc.heap.size := HJ.out.fb.lt
      go_upto_region 13 with fail
      obtain ⟨W, hW⟩ : ∃ W, W = wc.alloc (.cells #[.int .i64 p.k, .int .u64 p.x.s, .int .u64 p.x.mi, .int .u64 p.x.h, .int .u64 p.x.d, .int .u64 p.x.mo, .int .u64 p.x.w, .bool p.x.ad, .bool p.x.aw, .int .i64 p.z, .int .i64 p.e.s, .int .i64 p.e.p, .int .i64 p.e.c, .slice p.a p.n p.c] 29) := ⟨_, rfl⟩
      have HK : Hid (SkJ w p f u wc.heap.size (plV p) W) := Lib.hid (by
        rw [hW]
        exact ⟨HJ.out.xb.alloc _, HJ.out.fb.alloc _, Blk.new wc _ _, HJ.out.below.alloc HJ.out.below.size _⟩)
      have HBW : Hid (wc.heap.size < W.heap.size) := Lib.hid HK.out.yb.lt
      rw [← hW]
      clear hW HJ c0 c1 c2 c3 c4 c5 c6 c7 c8 c9 c10 c11 c12 c13
      have h14 := hl2
      generalize wc.heap.size = b14 at *
      have hb14 := HBW.out
      obtain ⟨q13, q0, q1⟩ := HK.out.three
      have hm1 : 0 + p.n ≤ maxLen := by unfold maxLen; omega
      have hm2 : (0 + p.n) * 16 ≤ 140737488355328 := by omega
      have hm3 : l.length + 1 ≤ maxLen := by have := HL63.out; unfold maxLen; omega
      have hm4 : (l.length + 1) * 16 ≤ 140737488355328 := by have := HL63.out; omega
      have HLC : Hid ((cellsS l).length = p.n * 2) := Lib.hid (by rw [cellsS_len, HLN.out])
      have HSPA := Lib.hid (HA.out W HK.out.below).at_
      have HLN1 : Hid (l.length + 1 = p.n + 1) := Lib.hid (by rw [HLN.out])
      have n1 : ¬ w.heap.size = b14 := by omega
      have n3 : ¬ b14 = w.heap.size := by omega
      have n4 : ¬ b14 = w.heap.size + 1 := by omega
      have n2 : ¬ w.heap.size + 1 = b14 := by omega
      go_cut [84] from 77 to 83 (fun s84 wx => ∃ a c, s84 = .pointer (some ⟨b14, 13, none⟩) ∧ SkJ w p f u b14 (plV (p.more a c)) wx ∧ SpansAt wx a (l ++ [(f, u)]))
      case first =>
        go_region_held3 (fun w' => w'.cell? ⟨w.heap.size, 13, none⟩ = some (.slice p.a p.n p.c) ∧ w'.cell? ⟨w.heap.size + 1, 0, none⟩ = some (.int .i64 f) ∧ w'.cell? ⟨w.heap.size + 1, 1, none⟩ = some (.int .i64 u)) (go_keep)
          (first
            | (refine step_own rfl _ _ _ rfl W.heap.size 54 i0 (.agg #[.int .i64 0, .int .i64 0]) 2 16 Tryz.underlying27 hi0 hz0 hz1 hz2 rfl (by decide) _ _ _ rfl (World.ownsRow_made _ #[] 0 (Nat.le_refl _) (Nat.zero_le _) rfl) p.a p.n p.c (cellsS l) rfl HLC.out (fits_up HSPA.out (bel1 W _)) (cellsS_one l) hm1 hm2 (bel1 W _).size (fun e => ⟨HN0.out e, rfl, _, rfl⟩) ?_; intro v1 w1 hown hgrow; have HB1 := Lib.hid (below_a hgrow (bel1 W _) (Nat.le_refl _)); have HROW := Lib.hid (row_of HLN.out hown); have HJ1 := Lib.hid (HK.out.next HB1.out); obtain ⟨q13, q0, q1⟩ := HJ1.out.three; clear hown hgrow)
            | (refine step_own rfl _ _ _ rfl W.heap.size 54 i0 (.agg #[.int .i64 0, .int .i64 0]) 2 16 Tryz.underlying27 hi0 hz0 hz1 hz2 rfl (by decide) _ _ _ rfl (World.ownsRow.alloc (World.ownsRow_made _ #[] 0 (Nat.le_refl _) (Nat.zero_le _) rfl) _) p.a p.n p.c (cellsS l) rfl HLC.out (fits_up HSPA.out (bel2 W _ _)) (cellsS_one l) hm1 hm2 (bel2 W _ _).size (fun e => ⟨HN0.out e, rfl, _, rfl⟩) ?_; intro v1 w1 hown hgrow; have HB1 := Lib.hid (below_a hgrow (bel2 W _ _) (Nat.le_refl _)); have HROW := Lib.hid (row_of HLN.out hown); have HS0 := Lib.hid (blk_two2 hgrow); have HJ1 := Lib.hid (HK.out.next HB1.out); obtain ⟨q13, q0, q1⟩ := HJ1.out.three; clear hown hgrow)
            | (refine step_own rfl _ _ _ rfl W.heap.size 54 i0 (.agg #[.int .i64 0, .int .i64 0]) 2 16 Tryz.underlying27 hi0 hz0 hz1 hz2 rfl (by decide) _ _ _ rfl (made3 W _) p.a p.n p.c (cellsS l) rfl HLC.out (fits_up HSPA.out (bel2 W _ _)) (cellsS_one l) hm1 hm2 (bel2 W _ _).size (fun e => ⟨HN0.out e, rfl, _, rfl⟩) ?_; intro v1 w1 hown hgrow; have HB1 := Lib.hid (below_a hgrow (bel2 W _ _) (Nat.le_succ _)); have HROW := Lib.hid (row_of HLN.out hown); have HS0 := Lib.hid (blk_two3 hgrow); have HJ1 := Lib.hid (HK.out.next HB1.out); obtain ⟨q13, q0, q1⟩ := HJ1.out.three; clear hown hgrow)
            | (refine step_own rfl _ _ _ rfl W.heap.size 54 i0 (.agg #[.int .i64 0, .int .i64 0]) 2 16 Tryz.underlying27 hi0 hz0 hz1 hz2 rfl (by decide) _ _ _ rfl (own_alloc HROW.out _) (some ⟨w1.heap.size, 0, none⟩) 1 1 [.int .i64 f, .int .i64 u] rfl rfl (blk_read2 (Blk.new w1 _ _)) (one2 f u) hm3 hm4 ((HB1.out.alloc HB1.out.size _).size) (fun e => nomatch e) ?_; intro v2 w2 hown2 hgrow2; have HB2 := Lib.hid (fin_below hgrow2 (HB1.out.alloc HB1.out.size _) (own_alloc HROW.out _)); obtain ⟨g2, cap2, rfl⟩ := ownsRow_succ hown2; have HO2 := Lib.hid (row_snoc hown2); have HJ2 := Lib.hid (HK.out.next HB2.out); obtain ⟨q13, q0, q1⟩ := HJ2.out.three; have z13 := HJ2.out.yb.cell 13; have fz13 := HJ2.out.yb.frozen 13; have HF := Lib.hid (skj_fin HJ2.out h14 HBW.out HO2.out HLN1.out); obtain ⟨y13, y0, y1⟩ := HF.out.1.three; clear hown2 hgrow2)
            | (refine step_own rfl _ _ _ rfl W.heap.size 54 i0 (.agg #[.int .i64 0, .int .i64 0]) 2 16 Tryz.underlying27 hi0 hz0 hz1 hz2 rfl (by decide) _ _ _ rfl (HROW.out) (some ⟨W.heap.size + 1, 0, none⟩) 1 1 [.int .i64 f, .int .i64 u] rfl rfl (blk_read2 HS0.out) (one2 f u) hm3 hm4 (HB1.out.size) (fun e => nomatch e) ?_; intro v2 w2 hown2 hgrow2; have HB2 := Lib.hid (fin_below hgrow2 (HB1.out) (HROW.out)); obtain ⟨g2, cap2, rfl⟩ := ownsRow_succ hown2; have HO2 := Lib.hid (row_snoc hown2); have HJ2 := Lib.hid (HK.out.next HB2.out); obtain ⟨q13, q0, q1⟩ := HJ2.out.three; have z13 := HJ2.out.yb.cell 13; have fz13 := HJ2.out.yb.frozen 13; have HF := Lib.hid (skj_fin HJ2.out h14 HBW.out HO2.out HLN1.out); obtain ⟨y13, y0, y1⟩ := HF.out.1.three; clear hown2 hgrow2)
            | (refine step_own rfl _ _ _ rfl W.heap.size 54 i0 (.agg #[.int .i64 0, .int .i64 0]) 2 16 Tryz.underlying27 hi0 hz0 hz1 hz2 rfl (by decide) _ _ _ rfl (HROW.out) (some ⟨W.heap.size, 0, none⟩) 1 1 [.int .i64 f, .int .i64 u] rfl rfl (blk_read2 HS0.out) (one2 f u) hm3 hm4 (HB1.out.size) (fun e => nomatch e) ?_; intro v2 w2 hown2 hgrow2; have HB2 := Lib.hid (fin_below hgrow2 (HB1.out) (HROW.out)); obtain ⟨g2, cap2, rfl⟩ := ownsRow_succ hown2; have HO2 := Lib.hid (row_snoc hown2); have HJ2 := Lib.hid (HK.out.next HB2.out); obtain ⟨q13, q0, q1⟩ := HJ2.out.three; have z13 := HJ2.out.yb.cell 13; have fz13 := HJ2.out.yb.frozen 13; have HF := Lib.hid (skj_fin HJ2.out h14 HBW.out HO2.out HLN1.out); obtain ⟨y13, y0, y1⟩ := HF.out.1.three; clear hown2 hgrow2))
        all_goals
          go_wp2_with fail
          go_meet
          exact ⟨_, _, rfl, HF.out⟩
      case rest =>
        obtain ⟨a, c, rfl, hj, hs⟩ := hcut
        have HJ := Lib.hid hj
        have HS := Lib.hid hs
        clear hj hs q13 q0 q1
        obtain ⟨k0, k1, k2, k3, k4, k5, k6, k7, k8, k9, k10, k11, k12, k13⟩ := HJ.out.cellsM
        obtain ⟨-, s0, s1⟩ := HJ.out.three
        have C2 := Lib.hid (CK2.out a c wc HJ.out.below HS.out)
        by_cases hok : 0 ≤ f ∧ f ≤ u ∧ u ≤ 253402300799
        · have hE2 : plE (p.more a c) (l ++ [(f, u)]) = 0 := plE_of (by rw [plK_more a c HPK.out.1]; exact HPK.out.2.1) (spE_snoc_ok HPK.out.2.2.1 HL63.out hok.1 hok.2.1 hok.2.2)
          obtain ⟨hm, hg⟩ := HM.out a c hE2
          have C3 := Lib.hid (fun W (h : Below w.heap.size w W) (hs : SpansAt W a (l ++ [(f, u)])) => CI2.out a c W h hs)
          rw [hm, hg] at C3
          rw [hE2] at C2
          obtain ⟨x1, hx1⟩ : ∃ x, decide (t < f) = x := ⟨_, rfl⟩
          obtain ⟨x2, hx2⟩ : ∃ x, decide (u < t) = x := ⟨_, rfl⟩
          rw [hx1, hx2] at C3
          clear hE2 hm hg CK2 CI2 hok
          go_wp2_with fail
          refine (C2.out).mono ?_
          rintro e w7 ⟨rfl, hb⟩
          have HJ := Lib.hid (HJ.out.next hb)
          have HS := Lib.hid (HS.out.below hb)
          clear hb k0 k1 k2 k3 k4 k5 k6 k7 k8 k9 k10 k11 k12 k13 s0 s1
          obtain ⟨k0, k1, k2, k3, k4, k5, k6, k7, k8, k9, k10, k11, k12, k13⟩ := HJ.out.cellsM
          go_wp2_with fail
          refine (C3.out _ HJ.out.below HS.out).mono ?_
          rintro e w8 ⟨rfl, hb⟩
          have HJ := Lib.hid (HJ.out.next hb)
          clear hb k0 k1 k2 k3 k4 k5 k6 k7 k8 k9 k10 k11 k12 k13
          obtain ⟨-, s0, s1⟩ := HJ.out.three
          cases h8 <;> cases x1 <;> cases x2 <;> simp only [Bool.and_true, Bool.and_false, Bool.or_true, Bool.or_false, Bool.or_self, Bool.and_self]
          all_goals
            go_wp2_with fail
            refine (CW.out _ HJ.out.below).mono ?_
            rintro e w9 ⟨rfl, hb⟩
            have HBE := Lib.hid (HJ.out.below.trans (hb.mono HJ.out.below.size))
            clear hb
            go_wp2_with fail
            go_ret
            exact ⟨rfl, HBE.out⟩
        · have hE2 : plE (p.more a c) (l ++ [(f, u)]) = 16 := by
            unfold plE
            rw [if_neg]
            intro h
            rw [Bool.and_eq_true, decide_eq_true_eq] at h
            exact spE_snoc_bad HPK.out.2.2.1 HL63.out hok h.2
          rw [hE2] at C2
          have h3 : (decide (f < 0) || decide (253402300799 < u) || decide (u < f)) = true := by simp; omega
          obtain ⟨x1, hx1⟩ : ∃ x, decide (f < 0) = x := ⟨_, rfl⟩
          obtain ⟨x2, hx2⟩ : ∃ x, decide (253402300799 < u) = x := ⟨_, rfl⟩
          obtain ⟨x3, hx3⟩ : ∃ x, decide (u < f) = x := ⟨_, rfl⟩
          rw [hx1, hx2, hx3] at h3
          clear hE2 CK2 CI2 hok
          go_wp2_with fail
          refine (C2.out).mono ?_
          rintro e w7 ⟨rfl, hb⟩
          have HJ := Lib.hid (HJ.out.next hb)
          clear hb k0 k1 k2 k3 k4 k5 k6 k7 k8 k9 k10 k11 k12 k13 s0 s1
          obtain ⟨-, s0, s1⟩ := HJ.out.three
          cases x1 <;> cases x2 <;> cases x3 <;> simp only [Bool.or_true, Bool.or_false, Bool.or_self, Bool.false_eq_true] at h3
          all_goals
            go_wp2_with fail
            refine (CW.out _ HJ.out.below).mono ?_
            rintro e w9 ⟨rfl, hb⟩
            have HBE := Lib.hid (HJ.out.below.trans (hb.mono HJ.out.below.size))
            clear hb
            go_wp2_with fail
            go_ret
            exact ⟨rfl, HBE.out⟩
end Go.Proofs.YtmkdjdfhkhmejaaGreatDoor.BW
