/- The iterator of the matched times: its contract. -/
import Derived.Test.YtihadbkjfocdoaaGreatDoorMatX
import Derived.Test.YtihadbkjfocdoaaGreatDoorMTimes
import Derived.StillTailTactics
import Derived.Scope
namespace Go.Proofs.YtihadbkjfocdoaaGreatDoor.BW
open Go.RowKit BM Go.Shelf MC RK
open BK hiding ret_bool ret_i64

attribute [local go_sem] Oper.semAt_some

def loI (z a : Int) : Int := max (a + z * 60) (max 0 (z * 60))
def hiI (z b : Int) : Int := min (b + z * 60) (min 253402300799 (253402300799 + z * 60))
set_option maxHeartbeats 400000 in
theorem local_ok (z : Int) (h : -840 ≤ z ∧ z ≤ 840) (w : World) : Calls Tryz.prog 95 #[.int .i64 z] w fun e w' => e = .returned (.tuple #[.int .i64 (z * 60), .int .i64 (max 0 (z * 60)), .int .i64 (min 253402300799 (253402300799 + z * 60))]) ∧ w = w' := by
  obtain ⟨h1, h2⟩ := h
  go_enter Tryz.func95, Tryz.ntmps95
  go_wp2
  go_ret3
  exact ⟨rfl, rfl⟩

/-- The blocks that must stay as they are while times are handed out. -/
def KA (B0 b N : Nat) (k : Nat) : Prop := k < B0 ∨ b ≤ k ∧ k < b + 4 ∨ N ≤ k ∧ k < N + 10
def KpA (B0 b N : Nat) (X Y : World) : Prop := KeepsFrom N X Y ∧ KeepS (KA B0 b N) X Y
theorem tab_steps {B : Nat} {X Y : World} (h : Tab X) (hs : RK.Steps (fun _ => False) B X Y) (hB : 1 < B) : Tab Y := fun j hj => by
  have hlt := World.block_lt_of_cell? X _ (h j hj)
  rw [World.cell?_of_block (w := X) ((hs.same _ X.heap[1] (Array.getElem?_eq_getElem hlt) (fun h => h) (fun h => absurd hB (Nat.not_lt.2 h))).trans (Array.getElem?_eq_getElem hlt).symm)]
  exact h j hj
theorem tab_keep {K : Nat → Prop} {X Y : World} (h : Tab X) (hs : KeepS K X Y) (hB : K 1) : Tab Y := fun j hj => by
  rw [World.cell?_of_block (w := X) (hs _ hB)]
  exact h j hj
/-- What the iterator has in its blocks. -/
structure AllF (x : Ex) (b N l p q : Nat) (sh lo hi : Int) (W : World) : Prop where
  yb : Blk W N 110 #[.func (.yield l) #[] #[]]
  sh : Blk W (N + 1) 2 #[.int .i64 sh]
  lo : Blk W p 2 #[.int .i64 lo]
  hi : Blk W q 2 #[.int .i64 hi]
  pp : N + 2 ≤ p ∧ p < N + 4
  qq : N + 2 ≤ q ∧ q < N + 4
  xb : Blk W b 47 (exV x)
  tab : Tab W
section
variable {x : Ex} {b N l B p q : Nat} {sh lo hi : Int} {X Y : World}
theorem AllF.steps (h : AllF x b N l p q sh lo hi X) (hs : RK.Steps (fun _ => False) B X Y) (hB : 1 < B) : AllF x b N l p q sh lo hi Y :=
  ⟨steps_blk hs h.yb (fun h => h), steps_blk hs h.sh (fun h => h), steps_blk hs h.lo (fun h => h), steps_blk hs h.hi (fun h => h), h.pp, h.qq, steps_blk hs h.xb (fun h => h), tab_steps h.tab hs hB⟩
theorem AllF.keep {B0 : Nat} (h : AllF x b N l p q sh lo hi X) (hs : KeepS (KA B0 b N) X Y) (hB : 1 < B0) : AllF x b N l p q sh lo hi Y :=
  ⟨hs.blk h.yb (.inr (.inr ⟨by omega, by omega⟩)), hs.blk h.sh (.inr (.inr ⟨by omega, by omega⟩)), hs.blk h.lo (.inr (.inr ⟨by have := h.pp; omega, by have := h.pp; omega⟩)), hs.blk h.hi (.inr (.inr ⟨by have := h.qq; omega, by have := h.qq; omega⟩)), h.pp, h.qq, hs.blk h.xb (.inr (.inl ⟨by omega, by omega⟩)), tab_keep h.tab hs (.inl hB)⟩
end
theorem daysL_up (x : Ex) (s n : Nat) : daysL x (fun j => s + j) n = dUp x s n := by
  unfold daysL dUp
  rw [List.range'_eq_map_range]
theorem keepsFrom_below {B : Nat} {X Y : World} (h : Below X.heap.size X Y) : KeepsFrom B X Y := ⟨h.size, fun k _ _ hk _ => (h.block k (Array.getElem?_eq_some_iff.1 hk).1).trans hk⟩
theorem keepS_below {K : Nat → Prop} {X Y : World} (h : Below X.heap.size X Y) (hK : ∀ k, K k → k < X.heap.size) : KeepS K X Y := fun k hk => h.block k (hK k hk)
theorem keepsFrom_mono {B C : Nat} {X Y : World} (h : KeepsFrom B X Y) (hC : B ≤ C) : KeepsFrom C X Y := ⟨h.size, fun k o hk => h.same k o (Nat.le_trans hC hk)⟩
/-- What lies in the inner loop's rounds. -/
structure Acc (B : Nat) (K : Nat → Prop) (X Y : World) : Prop where
  from_ : KeepsFrom B X Y
  keep : KeepS K X Y
theorem Acc.refl (B : Nat) (K : Nat → Prop) (X : World) : Acc B K X X := ⟨KeepsFrom.refl _ _, fun _ _ => rfl⟩
theorem Acc.trans {B : Nat} {K : Nat → Prop} {X Y Z : World} (h : Acc B K X Y) (h' : Acc B K Y Z) : Acc B K X Z := ⟨h.from_.trans h'.from_, h.keep.trans h'.keep⟩
/-- The times that are handed out. -/
noncomputable def timesL (x : Ex) (z a b : Int) : List Int := if hiI z b < loI z a then [] else (rest x (loI z a).toNat (hiI z b).toNat).map fun (l : Nat) => ((l : Nat) : Int) - z * 60

set_option maxRecDepth 60000 in
set_option maxHeartbeats 8000000 in
theorem all_in (x : Ex) (hx : U64s x) (hok : x.Ok) (z a b : Int) (hz : -840 ≤ z ∧ z ≤ 840) (ha : 0 ≤ a ∧ a ≤ 253402300800) (hb : 0 ≤ b ∧ b ≤ 253402300799) (bb B0 : Nat) (l : Nat) (J Jx : List Int → World → Prop) (W : World)
    (hB0 : 1 < B0) (hB1 : B0 ≤ W.heap.size) (hTab : Tab W)
    (hBz : Blk W (bb + 1) 3 #[.int .i64 z]) (hBa : Blk W (bb + 2) 2 #[.int .i64 a]) (hBb : Blk W (bb + 3) 2 #[.int .i64 b]) (hBx : Blk W bb 47 (exV x))
    (hJ : Closed (fun _ => False) W.heap.size J) (hJx : Closed (fun _ => False) W.heap.size Jx)
    (hY : ∀ pre d W1, J pre W1 → (pre ++ [d]) <+: timesL x z a b → W.heap.size + 10 ≤ W1.heap.size → YieldAt Fence.wide 0 Tryz.prog l #[.int .i64 d] W1 fun e W' =>
      (e = .returned (.bool true) ∧ J (pre ++ [d]) W' ∧ KpA B0 bb W.heap.size W1 W') ∨ (e = .returned (.bool false) ∧ Jx (pre ++ [d]) W' ∧ KeepsFrom W.heap.size W1 W'))
    (h0 : J [] W) :
    CallsIn Fence.wide 9 Tryz.prog 108 #[.func (.yield l) #[] #[], .pointer (some ⟨bb + 1, 0, none⟩), .pointer (some ⟨bb + 2, 0, none⟩), .pointer (some ⟨bb + 3, 0, none⟩), .pointer (some ⟨bb, 0, none⟩)] W fun e W' => (∃ v, e = .returned v) ∧
      (J (timesL x z a b) W' ∨ (∃ pre, pre <+: timesL x z a b ∧ Jx pre W')) := by
  have HTL : Hid (timesL x z a b = if hiI z b < loI z a then [] else (rest x (loI z a).toNat (hiI z b).toNat).map fun (l : Nat) => ((l : Nat) : Int) - z * 60) := Lib.hid rfl
  generalize timesL x z a b = L at *
  refine callsIn_of_wp_marks Tryz.func108 rfl trivial ?_ rfl
  simp only [Tryz.ntmps108, List.size_toArray, List.length_cons, List.length_nil, Nat.reduceAdd, Nat.reduceSub, Array.replicate_succ, Array.replicate_zero, List.push_toArray, List.append_toArray, List.nil_append, List.cons_append]
  have cz : W.cell? ⟨bb + 1, 0, none⟩ = some (.int .i64 z) := hBz.cell 0
  have ca : W.cell? ⟨bb + 2, 0, none⟩ = some (.int .i64 a) := hBa.cell 0
  have cb : W.cell? ⟨bb + 3, 0, none⟩ = some (.int .i64 b) := hBb.cell 0
  have nz := hBz.lt
  have na := hBa.lt
  have nb := hBb.lt
  refine wpIn_wide.2 ?_
  go_wp2_with fail
  refine wp_scope_straight ?_
  go_wp2_with fail
  refine (local_ok z hz _).mono ?_
  rintro e w1 ⟨rfl, rfl⟩
  go_upto_region 2 with fail
  obtain ⟨W2, hW2⟩ : ∃ W2, W2 = (W.alloc (.cells #[.func (.yield l) #[] #[]] 110)).alloc (.cells #[.int .i64 (z * 60)] 2) := ⟨_, rfl⟩
  have hb2 : Below W.heap.size W W2 := by rw [hW2]; exact ((Below.refl _ W).alloc (Nat.le_refl _) _).alloc (by simp) _
  have hs2 : W2.heap.size = W.heap.size + 2 := by rw [hW2]; simp
  have hy2 : Blk W2 W.heap.size 110 #[.func (.yield l) #[] #[]] := by rw [hW2]; exact (Blk.new W _ _).alloc _
  have hsh2 : Blk W2 (W.heap.size + 1) 2 #[.int .i64 (z * 60)] := by rw [hW2]; exact Blk.newAt (by simp)
  rw [← hW2]
  clear hW2
  have ca2 : W2.cell? ⟨bb + 2, 0, none⟩ = some (.int .i64 a) := (hBa.below hb2 na).cell 0
  have cb2 : W2.cell? ⟨bb + 3, 0, none⟩ = some (.int .i64 b) := (hBb.below hb2 nb).cell 0
  have csh : W2.cell? ⟨W.heap.size + 1, 0, none⟩ = some (.int .i64 (z * 60)) := hsh2.cell 0
  clear cz ca cb
  have wa : IntKind.i64.wrap (a + z * 60) = a + z * 60 := IntWalk.i64_in _ (by omega)
  have wb : IntKind.i64.wrap (b + z * 60) = b + z * 60 := IntWalk.i64_in _ (by omega)
  go_cut [9, 10] from 22 to 31 (fun s9 s10 wx => ∃ p q : Nat, (W.heap.size + 2 ≤ p ∧ p < W.heap.size + 4) ∧ (W.heap.size + 2 ≤ q ∧ q < W.heap.size + 4) ∧ s9 = .pointer (some ⟨p, 0, none⟩) ∧ s10 = .pointer (some ⟨q, 0, none⟩) ∧ Blk wx p 2 #[.int .i64 (loI z a)] ∧ Blk wx q 2 #[.int .i64 (hiI z b)] ∧ Below W2.heap.size W2 wx ∧ wx.heap.size = W.heap.size + 4)
  case first =>
    have HR1 : Hid (∀ W3, W3 = (W2.alloc (.cells #[.int .i64 (loI z a)] 2)).alloc (.cells #[.int .i64 (hiI z b)] 2) → Blk W3.drew (W.heap.size + 2) 2 #[.int .i64 (loI z a)] ∧ Blk W3.drew (W.heap.size + 2 + 1) 2 #[.int .i64 (hiI z b)] ∧ Below W2.heap.size W2 W3.drew ∧ W3.drew.heap.size = W.heap.size + 4) := Lib.hid (by
      rintro W3 rfl
      exact ⟨(Blk.newAt (by omega)).alloc _, Blk.newAt (by simp; omega), below_drewN (((Below.refl _ W2).alloc (Nat.le_refl _) _).alloc (by simp) _) 1, by show (World.alloc _ _).heap.size = _; simp; omega⟩)
    have HR2 : Hid (∀ W3, W3 = (W2.alloc (.cells #[.int .i64 (hiI z b)] 2)).alloc (.cells #[.int .i64 (loI z a)] 2) → Blk W3.drew (W.heap.size + 2 + 1) 2 #[.int .i64 (loI z a)] ∧ Blk W3.drew (W.heap.size + 2) 2 #[.int .i64 (hiI z b)] ∧ Below W2.heap.size W2 W3.drew ∧ W3.drew.heap.size = W.heap.size + 4) := Lib.hid (by
      rintro W3 rfl
      exact ⟨Blk.newAt (by simp; omega), (Blk.newAt (by omega)).alloc _, below_drewN (((Below.refl _ W2).alloc (Nat.le_refl _) _).alloc (by simp) _) 1, by show (World.alloc _ _).heap.size = _; simp; omega⟩)
    go_region_held3 (fun w' => w'.cell? ⟨bb + 2, 0, none⟩ = some (.int .i64 a) ∧ w'.cell? ⟨bb + 3, 0, none⟩ = some (.int .i64 b) ∧ w'.cell? ⟨W.heap.size + 1, 0, none⟩ = some (.int .i64 (z * 60))) (go_keep) (fail)
    all_goals
      go_wp2_with fail
      go_meet
      first
        | exact ⟨W.heap.size + 2, W.heap.size + 2 + 1, by omega, by omega, rfl, rfl, HR1.out _ rfl⟩
        | exact ⟨W.heap.size + 2 + 1, W.heap.size + 2, by omega, by omega, rfl, rfl, HR2.out _ rfl⟩
  case rest =>
    obtain ⟨p, q, hp, hq, rfl, rfl, hlo, hhi, hb3, hs3⟩ := hcut
    have HS3 := Lib.hid hs3
    clear hs3
    have HA : Hid (AllF x bb W.heap.size l p q (z * 60) (loI z a) (hiI z b) wc) := Lib.hid ⟨hy2.below hb3 hy2.lt, hsh2.below hb3 hsh2.lt, hlo, hhi, hp, hq, (hBx.below hb2 hBx.lt).below hb3 (Nat.lt_of_lt_of_le hBx.lt hb2.size), tab_below (tab_below hTab hb2 (by omega)) hb3 (by omega)⟩
    have HJ0 : Hid (J [] wc) := Lib.hid (hJ _ _ _ (hJ _ _ _ h0 (RK.Steps.of_below hb2)) (RK.Steps.of_below hb3))
    have cl : wc.cell? ⟨p, 0, none⟩ = some (.int .i64 (loI z a)) := hlo.cell 0
    have ch : wc.cell? ⟨q, 0, none⟩ = some (.int .i64 (hiI z b)) := hhi.cell 0
    have hlo0 : 0 ≤ loI z a := by unfold loI; omega
    have hlo1 : loI z a ≤ 253402400000 := by unfold loI; omega
    have hhi1 : hiI z b ≤ 253402300799 := by unfold hiI; omega
    have hhi0 : -100000 ≤ hiI z b := by unfold hiI; omega
    have hNb := HA.out.xb.lt
    generalize loI z a = lo at *
    generalize hiI z b = hi at *
    clear hlo hhi hb3 hb2 hy2 hsh2 ca2 cb2 csh wa wb hBx hBa hBb hBz nz na nb h0 hTab hs2 ha hb
    have c0 : wc.cell? ⟨bb, 0, none⟩ = some (.int .u64 x.s) := HA.out.xb.cell 0
    have c1 : wc.cell? ⟨bb, 1, none⟩ = some (.int .u64 x.mi) := HA.out.xb.cell 1
    have c2 : wc.cell? ⟨bb, 2, none⟩ = some (.int .u64 x.h) := HA.out.xb.cell 2
    have c3 : wc.cell? ⟨bb, 3, none⟩ = some (.int .u64 x.d) := HA.out.xb.cell 3
    have c4 : wc.cell? ⟨bb, 4, none⟩ = some (.int .u64 x.mo) := HA.out.xb.cell 4
    have c5 : wc.cell? ⟨bb, 5, none⟩ = some (.int .u64 x.w) := HA.out.xb.cell 5
    have c6 : wc.cell? ⟨bb, 6, none⟩ = some (.bool x.ad) := HA.out.xb.cell 6
    have c7 : wc.cell? ⟨bb, 7, none⟩ = some (.bool x.aw) := HA.out.xb.cell 7
    by_cases hlt : hi < lo
    · have HL := Lib.hid HTL.out
      rw [if_pos hlt] at HL
      go_wp2_with fail
      refine ⟨_, results_none rfl _ _ _, ?_⟩
      exact ⟨⟨_, rfl⟩, .inl (by rw [HL.out]; exact HJ0.out)⟩
    · have HL := Lib.hid HTL.out
      rw [if_neg hlt] at HL
      clear HTL
      obtain ⟨lo, rfl⟩ := Int.eq_ofNat_of_zero_le hlo0
      obtain ⟨hi, rfl⟩ := Int.eq_ofNat_of_zero_le (show 0 ≤ hi by omega)
      rw [Int.toNat_natCast, Int.toNat_natCast] at HL
      go_wp2_with fail
      refine wp_label ?_
      try simp only [Exit.then]
      go_wp2_with fail
      refine (days_mk x ((lo : Int) / 86400) ((hi : Int) / 86400) wc).mono ?_
      rintro e w4 ⟨rfl, rfl⟩
      have hb4 : Below wc.heap.size wc (((wc.alloc (.cells (exV x) 47)).alloc (.cells #[.int .i64 ((lo : Int) / 86400)] 2)).alloc (.cells #[.int .i64 ((hi : Int) / 86400)] 2)) := (((Below.refl _ wc).alloc (Nat.le_refl _) _).alloc (by simp) _).alloc (by simp; omega) _
      have q1 : Blk (((wc.alloc (.cells (exV x) 47)).alloc (.cells #[.int .i64 ((lo : Int) / 86400)] 2)).alloc (.cells #[.int .i64 ((hi : Int) / 86400)] 2)) wc.heap.size 47 (exV x) := ((Blk.new wc _ _).alloc _).alloc _
      have q2 : Blk (((wc.alloc (.cells (exV x) 47)).alloc (.cells #[.int .i64 ((lo : Int) / 86400)] 2)).alloc (.cells #[.int .i64 ((hi : Int) / 86400)] 2)) (wc.heap.size + 1) 2 #[.int .i64 ((lo : Int) / 86400)] := (Blk.newAt (by simp)).alloc _
      have q3 : Blk (((wc.alloc (.cells (exV x) 47)).alloc (.cells #[.int .i64 ((lo : Int) / 86400)] 2)).alloc (.cells #[.int .i64 ((hi : Int) / 86400)] 2)) (wc.heap.size + 2) 2 #[.int .i64 ((hi : Int) / 86400)] := Blk.newAt (by simp)
      have hs4 : (((wc.alloc (.cells (exV x) 47)).alloc (.cells #[.int .i64 ((lo : Int) / 86400)] 2)).alloc (.cells #[.int .i64 ((hi : Int) / 86400)] 2)).heap.size = wc.heap.size + 3 := by simp
      have HA4 := Lib.hid (HA.out.steps (RK.Steps.of_below (own := fun _ => False) (B := wc.heap.size) hb4) (by have := HS3.out; omega))
      have HJ4 := Lib.hid (hJ _ _ _ HJ0.out (RK.Steps.of_below hb4))
      go_wp2_with fail
      refine (wpIn_wide (n := 9)).1 ?_
      generalize ((wc.alloc _).alloc _).alloc _ = W4 at *
      clear c0 c1 c2 c3 c4 c5 c6 c7 cl ch HA HJ0 hb4
      have hle : lo ≤ hi := by omega
      have hdd : lo / 86400 ≤ hi / 86400 := Nat.div_le_div_right hle
      have HW : Hid (Walk (fun j => lo / 86400 + j) (hi / 86400 - lo / 86400) ((lo : Int) / 86400) ((hi : Int) / 86400) 1) := Lib.hid ⟨fun j hj => by omega, by omega, fun j hj => by omega, .inl ⟨rfl, by omega⟩⟩
      have HNN : Hid (hi / 86400 - lo / 86400 + 1 = hi / 86400 + 1 - lo / 86400) := Lib.hid (by omega)
      have HS4 : Hid (W4.heap.size = wc.heap.size + 3) := Lib.hid hs4
      clear hs4
      have hW4 : W.heap.size ≤ W4.heap.size := by have := HS3.out; have := HS4.out; omega
      have hg4 : 1 < W4.heap.size := by have := HS3.out; have := HS4.out; omega
      have CI : Closed (fun _ => False) W4.heap.size (fun (pre : List Nat) (W' : World) => ∃ Y, J Y W' ∧ AllF x bb W.heap.size l p q (z * 60) lo hi W' ∧ Y ++ ((rest x (cOf lo pre) hi).map fun (l : Nat) => ((l : Nat) : Int) - z * 60) = L) := fun pre X Y h hs => by
        obtain ⟨y, h1, h2, h3⟩ := h
        exact ⟨y, hJ _ _ _ h1 (hs.mono hW4), h2.steps hs hg4, h3⟩
      have CX : ∀ c, Closed (fun _ => False) W4.heap.size ((fun (c : Code) (pre : List Nat) (W' : World) => c = .ret ∧ (J L W' ∨ ∃ p, p <+: L ∧ Jx p W')) c) := fun c pre X Y h hs =>
        ⟨h.1, h.2.elim (fun h => .inl (hJ _ _ _ h (hs.mono hW4))) (fun ⟨p, h1, h2⟩ => .inr ⟨p, h1, hJx _ _ _ h2 (hs.mono hW4)⟩)⟩
      have C0 : (fun (pre : List Nat) (W' : World) => ∃ Y, J Y W' ∧ AllF x bb W.heap.size l p q (z * 60) lo hi W' ∧ Y ++ ((rest x (cOf lo pre) hi).map fun (l : Nat) => ((l : Nat) : Int) - z * 60) = L) [] W4 := ⟨[], HJ4.out, HA4.out, by rw [cOf_nil, List.nil_append]; exact HL.out.symm⟩
      have CK : ∀ (X : World) (o o' : Obj), X.heap[W4.heap.size + 1]? = some o → o.isCells = false → KeepS (KD wc.heap.size (wc.heap.size + 1) (wc.heap.size + 2) (W4.heap.size + 2)) X (X.putObj (W4.heap.size + 1) o') := fun X o o' hl hc k hk => World.putObj_heap_other (by have := HS4.out; unfold KD at hk; omega)
      have SQ := days_seq (9 - 1) x hx (fun j => lo / 86400 + j) (hi / 86400 - lo / 86400) ((lo : Int) / 86400) ((hi : Int) / 86400) 1 HW wc.heap.size (wc.heap.size + 1) (wc.heap.size + 2) W4 q1 q2 q3
      have EG := enters_of Tryz.func109 (by kernel_rfl) rfl
      refine' wpIn_rangeFunc_seqL rfl (by decide) (gf := 109) (lb := #[.pointer (some ⟨wc.heap.size, 0, none⟩), .pointer (some ⟨wc.heap.size + 1, 0, none⟩), .pointer (some ⟨wc.heap.size + 2, 0, none⟩)]) ?hg trivial EG
        SQ (fun _ h => h.elim) (fun h k => h.trans k) CK (fun _ => rfl) (fun (pre : List Nat) (W' : World) => ∃ Y, J Y W' ∧ AllF x bb W.heap.size l p q (z * 60) lo hi W' ∧ Y ++ ((rest x (cOf lo pre) hi).map fun (l : Nat) => ((l : Nat) : Int) - z * 60) = L) (fun (c : Code) (pre : List Nat) (W' : World) => c = .ret ∧ (J L W' ∨ ∃ p, p <+: L ∧ Jx p W')) CI CX C0 _ ?assign ?body ?done ?stop
      case hg => rfl
      case assign =>
        intro l d W K hK
        gi_wp2
        exact hK
      case body =>
        have hlo2 : lo ≤ 253402400000 := by omega
        have hhi2 : hi ≤ 253402300799 := by omega
        clear EG SQ CI CX C0 CK q1 q2 q3 hlt hlo0 hhi0 hlo1 hhi1 hdd
        rintro li pre d W' ⟨Y, hJY, hA, hLY⟩ hpre hsz
        rw [HNN.out, daysL_up] at hpre
        have hdm : d ∈ dUp x (lo / 86400) (hi / 86400 + 1 - lo / 86400) := hpre.subset (by simp)
        obtain ⟨m1, m2, m3⟩ := dUp_mem hdm
        rw [rest_next_day hpre] at hLY
        have cl : W'.cell? ⟨p, 0, none⟩ = some (.int .i64 lo) := hA.lo.cell 0
        obtain ⟨f0, hf0⟩ : ∃ f0, f0 = lo - d * 86400 := ⟨_, rfl⟩
        rw [← hf0] at hLY
        have hmax : max 0 ((lo : Int) - (d : Int) * 86400) = (f0 : Int) := by omega
        have hf1 : f0 ≤ 86400 := by omega
        have HPRE := Lib.hid hpre
        have HM := Lib.hid m3
        have HS := Lib.hid (And.intro hJY (And.intro hA hLY))
        have hd1 : d ≤ 2932896 := by omega
        have HSZ : Hid (∀ k, KD wc.heap.size (wc.heap.size + 1) (wc.heap.size + 2) (W4.heap.size + 2) k → k < W'.heap.size) := Lib.hid (fun k hk => by have := HS4.out; unfold KD at hk; omega)
        clear hpre hdm m1 m2 m3 hJY hA hLY hf0
        gi_wp2_with fail
        gi_loopw [12] (fun s12 wr => ∃ (z0 : Int) (f0 : Nat) (Y : List Int), z0 = f0 ∧ z0 ≤ 86400 ∧ s12 = .int .i64 z0 ∧ J Y wr ∧ AllF x bb W.heap.size l p q (z * 60) lo hi wr ∧ Y ++ ((rest x (d * 86400 + f0) hi).map fun (l : Nat) => ((l : Nat) : Int) - z * 60) = L ∧ Acc W4.heap.size (KD wc.heap.size (wc.heap.size + 1) (wc.heap.size + 2) (W4.heap.size + 2)) W' wr) (fun s12 _ => 86400 - intM s12)
        case atStart => exact ⟨(f0 : Int), f0, Y, rfl, by omega, by first | rfl | (rw [hmax]), HS.out.1, HS.out.2.1, HS.out.2.2, Acc.refl _ _ _⟩
        case round =>
          clear cl hmax hf1 HS
          obtain ⟨z0, f0, Y, hz0, hf, rfl, hJY, hA, hLY, hacc⟩ := hrel
          have HS := Lib.hid (And.intro hJY (And.intro hA (And.intro hLY hacc)))
          have c0 : wr.cell? ⟨bb, 0, none⟩ = some (.int .u64 x.s) := hA.xb.cell 0
          have c1 : wr.cell? ⟨bb, 1, none⟩ = some (.int .u64 x.mi) := hA.xb.cell 1
          have c2 : wr.cell? ⟨bb, 2, none⟩ = some (.int .u64 x.h) := hA.xb.cell 2
          have c3 : wr.cell? ⟨bb, 3, none⟩ = some (.int .u64 x.d) := hA.xb.cell 3
          have c4 : wr.cell? ⟨bb, 4, none⟩ = some (.int .u64 x.mo) := hA.xb.cell 4
          have c5 : wr.cell? ⟨bb, 5, none⟩ = some (.int .u64 x.w) := hA.xb.cell 5
          have c6 : wr.cell? ⟨bb, 6, none⟩ = some (.bool x.ad) := hA.xb.cell 6
          have c7 : wr.cell? ⟨bb, 7, none⟩ = some (.bool x.aw) := hA.xb.cell 7
          clear hJY hA hLY hacc
          have hz1 : 0 ≤ z0 := by omega
          by_cases hf2 : z0 < 86400
          · have CF := Lib.hid (first_ok x hx hok f0 (by omega) wr HS.out.2.1.tab)
            rw [← hz0] at CF
            have HZ0 := Lib.hid hz0
            clear hz0
            cases hfs : fst x f0 with
            | none =>
              have HF := Lib.hid hfs
              rw [hfs] at CF
              clear hfs
              unfold exV at CF
              gi_wp2_with fail
              refine ⟨trivial, (callsIn_wide.2 CF.out).mono ?_⟩
              rintro e w5 ⟨rfl, hb5⟩
              have HF5 := Lib.hid (And.intro (hJ _ _ _ HS.out.1 (RK.Steps.of_below hb5)) (HS.out.2.1.steps (RK.Steps.of_below (own := fun _ => False) (B := W4.heap.size) hb5) hg4))
              have HACC := Lib.hid (HS.out.2.2.2.trans (Acc.mk (keepsFrom_below hb5) (keepS_below hb5 (fun k hk => Nat.lt_of_lt_of_le (HSZ.out k hk) HS.out.2.2.2.from_.size))))
              clear hb5
              simp only [num, Option.getD_none, Option.isSome_none]
              gi_wp2_with fail
              refine ⟨HACC.out.from_, HACC.out.keep, Y, HF5.out.1, HF5.out.2, ?_⟩
              rw [cOf_snoc, ← rest_day_none (f := f0) (by have := HZ0.out; omega) HF.out]
              exact HS.out.2.2.1
            | some s =>
              obtain ⟨s1, s2, s3, s4⟩ := fst_some.1 hfs
              have HF := Lib.hid hfs
              have HS3' := Lib.hid s3
              rw [hfs] at CF
              clear hfs s3 s4
              unfold exV at CF
              gi_wp2_with fail
              refine ⟨trivial, (callsIn_wide.2 CF.out).mono ?_⟩
              rintro e w5 ⟨rfl, hb5⟩
              have HF5 := Lib.hid (And.intro (hJ _ _ _ HS.out.1 (RK.Steps.of_below hb5)) (HS.out.2.1.steps (RK.Steps.of_below (own := fun _ => False) (B := W4.heap.size) hb5) hg4))
              have HACC := Lib.hid (HS.out.2.2.2.trans (Acc.mk (keepsFrom_below hb5) (keepS_below hb5 (fun k hk => Nat.lt_of_lt_of_le (HSZ.out k hk) HS.out.2.2.2.from_.size))))
              have HR : Hid (Y ++ ((rest x (d * 86400 + s) hi).map fun (l : Nat) => ((l : Nat) : Int) - z * 60) = L) := Lib.hid (by rw [← rest_day_some HF.out]; exact HS.out.2.2.1)
              have HSZ5 : Hid (W.heap.size + 10 ≤ w5.heap.size) := Lib.hid (by have := HACC.out.from_.size; have := HS3.out; have := HS4.out; omega)
              clear hb5 c0 c1 c2 c3 c4 c5 c6 c7
              have ch5 : w5.cell? ⟨q, 0, none⟩ = some (.int .i64 hi) := HF5.out.2.hi.cell 0
              have cs5 : w5.cell? ⟨W.heap.size + 1, 0, none⟩ = some (.int .i64 (z * 60)) := HF5.out.2.sh.cell 0
              have cy5 : w5.cell? ⟨W.heap.size, 0, none⟩ = some (.func (.yield l) #[] #[]) := HF5.out.2.yb.cell 0
              simp only [num, Option.getD_some, Option.isSome_some]
              by_cases hth : (hi : Int) < (d : Int) * 86400 + (s : Int)
              · have hdec : decide ((hi : Int) < (d : Int) * 86400 + (s : Int)) = true := decide_eq_true hth
                have HE : Hid (Y = L) := Lib.hid (by have h := HR.out; rwa [rest_over (by omega), List.map_nil, List.append_nil] at h)
                gi_wp2_with fail
                refine ⟨fun f h => by simp at h, ?_⟩
                gi_wp2_with fail
                exact ⟨HACC.out.from_, rfl, .inl (by rw [← HE.out]; exact HF5.out.1)⟩
              · have hdec : decide ((hi : Int) < (d : Int) * 86400 + (s : Int)) = false := decide_eq_false hth
                have hT : T x (d * 86400 + s) = true := by rw [T_day s1 HM.out]; exact HS3'.out
                have HR2 : Hid ((Y ++ [(d : Int) * 86400 + (s : Int) - z * 60]) ++ ((rest x (d * 86400 + (s + 1)) hi).map fun (l : Nat) => ((l : Nat) : Int) - z * 60) = L) := Lib.hid (by
                  have h := HR.out
                  rw [rest_cons (by omega) hT, List.map_cons, Nat.add_assoc] at h
                  rw [List.append_assoc, List.singleton_append]
                  have e : ((d * 86400 + s : Nat) : Int) = (d : Int) * 86400 + (s : Int) := by omega
                  rw [e] at h
                  exact h)
                have HP : Hid ((Y ++ [(d : Int) * 86400 + (s : Int) - z * 60]) <+: L) := Lib.hid ⟨_, HR2.out⟩
                clear hT
                obtain ⟨fn, tmps, assign, body, hy, hR⟩ := yieldAt_wide (k := 9 - 1 - 1 - 1) (hY Y _ w5 HF5.out.1 HP.out HSZ5.out)
                gi_wp2_with fail
                refine (show RoundIn (Fence.wide.inRound li) 6 _ _ _ _ _ _ _ _ from hR).mono ?_
                rintro e W7 (⟨rfl, hJ7, hk7⟩ | ⟨rfl, hJx7, hkf7⟩)
                · have HF7 := Lib.hid (And.intro hJ7 (HF5.out.2.keep hk7.2 hB0))
                  have HACC7 : Hid (Acc W4.heap.size (KD wc.heap.size (wc.heap.size + 1) (wc.heap.size + 2) (W4.heap.size + 2)) W' W7) := Lib.hid (HACC.out.trans (Acc.mk (keepsFrom_mono hk7.1 hW4) (fun k hk => hk7.2 k (by have := HS3.out; have := HS4.out; unfold KD at hk; unfold KA; omega))))
                  clear hJ7 hk7 hR hy ch5 cs5 cy5
                  gi_wp2_with fail
                  refine ⟨⟨_, s + 1, _, rfl, ?_, ?_, HF7.out.1, HF7.out.2, HR2.out, HACC7.out⟩, ?_⟩
                  · omega
                  · go_num
                  · simp [intM]; have := HZ0.out; omega
                · gi_wp2_with fail
                  exact ⟨HACC.out.from_.trans (keepsFrom_mono hkf7 hW4), rfl, .inr ⟨_, HP.out, hJx7⟩⟩
          · have hz86 : z0 = 86400 := by omega
            have HR : Hid (Y ++ ((rest x ((d + 1) * 86400) hi).map fun (l : Nat) => ((l : Nat) : Int) - z * 60) = L) := Lib.hid (by
              have h := HS.out.2.2.1
              rwa [show d * 86400 + f0 = (d + 1) * 86400 from by omega] at h)
            clear hz0
            gi_wp2_with fail
            refine ⟨HS.out.2.2.2.from_, HS.out.2.2.2.keep, Y, HS.out.1, HS.out.2.1, ?_⟩
            rw [cOf_snoc]
            exact HR.out
      case done =>
        clear EG SQ CI CX C0 CK q1 q2 q3 hlt hlo0 hhi0
        rintro D W' hD ⟨Y, hJY, hA, hLY⟩ hK
        have HE : Hid (Y = L) := Lib.hid (by
          rw [HNN.out, daysL_up] at hLY
          rwa [rest_nil (fun l h1 h2 => days_end h1 (Nat.le_trans (cOf_ge x lo _) h1) h2), List.map_nil, List.append_nil] at hLY)
        have HJY := Lib.hid hJY
        have HK := Lib.hid hK
        clear hJY hA hLY hK
        go_wp2_with fail
        refine ⟨by simp, .inl ⟨_, _, rfl, run_takeDeferred HK.out, ?_⟩⟩
        refine ⟨_, results_none rfl _ _ _, ⟨_, rfl⟩, .inl ?_⟩
        rw [← HE.out]
        exact hJ _ _ _ HJY.out (RK.Steps.putObj _ _ (Nat.le_trans hW4 hD) HK.out rfl)
      case stop =>
        clear EG SQ CI CX C0 CK q1 q2 q3 hlt hlo0 hhi0
        rintro D c pre W' hD hp ⟨rfl, h⟩ hK
        have HH := Lib.hid h
        have HK := Lib.hid hK
        clear h hK hp
        gi_wp2_with fail
        refine ⟨by simp, .inl ⟨_, _, rfl, run_takeDeferred HK.out, ?_⟩⟩
        refine ⟨_, results_none rfl _ _ _, ⟨_, rfl⟩, ?_⟩
        rcases HH.out with h | ⟨p, h1, h2⟩
        · exact .inl (hJ _ _ _ h (RK.Steps.putObj _ _ (Nat.le_trans hW4 hD) HK.out rfl))
        · exact .inr ⟨p, h1, hJx _ _ _ h2 (RK.Steps.putObj _ _ (Nat.le_trans hW4 hD) HK.out rfl)⟩
end Go.Proofs.YtihadbkjfocdoaaGreatDoor.BW
