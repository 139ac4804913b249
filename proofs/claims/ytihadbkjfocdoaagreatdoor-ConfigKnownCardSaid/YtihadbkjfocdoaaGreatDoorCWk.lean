/- The chapter's example of a configuration: what it holds, and wakemanlaw16.example. Contracts of wakemanlaw16.Few and ints. The chapter's examples of configurations hold: wakemanlaw16.works. -/
import Derived.Test.YtihadbkjfocdoaaGreatDoorCNext
import Derived.Test.YtihadbkjfocdoaaGreatDoorPRegI
import Derived.Test.YtihadbkjfocdoaaGreatDoorCJob
namespace Go.Proofs.YtihadbkjfocdoaaGreatDoor.BW
open Go.RowKit BM Go.Shelf MC RK
open BK hiding ret_bool ret_i64

def pEv (s p : Int) : Pl := ⟨2, zX, 0, ⟨s, p, 0⟩, none, 0, 0⟩
def pNo : Pl := ⟨0, zX, 0, ⟨0, 0, 0⟩, none, 0, 0⟩
def polX (n : Int) : Po := ⟨n, 50, 0, 3600, 0, 0, 0, 0, 0, 0, 0, 0, 0, 0, 0⟩
def exG : Gl := ⟨2, 10, 10, 60, 0, 0, 0⟩
def jA : Jb := ⟨⟨#[97]⟩, pEv 10 60, polX 1⟩
def jB : Jb := ⟨⟨#[98]⟩, pEv 70 90, polX 2⟩
def jC : Jb := ⟨⟨#[99]⟩, pNo, polX 3⟩
def exL : JL := [(jA, []), (jB, []), (jC, [])]
def exC (g : Nat) : Cf := ⟨exG, some ⟨g, 0, none⟩, 3, 3⟩
def exCells : Array Value := #[.string ⟨#[97]⟩, .int .i64 2, .int .u64 0, .int .u64 0, .int .u64 0, .int .u64 0, .int .u64 0, .int .u64 0, .bool false, .bool false, .int .i64 0, .int .i64 10, .int .i64 60, .int .i64 0, .slice none 0 0, .int .i64 1, .int .i64 50, .int .i64 0, .int .i64 3600, .int .i64 0, .int .i64 0, .int .i64 0, .int .i64 0, .int .i64 0, .int .i64 0, .int .i64 0, .int .i64 0, .int .i64 0, .int .i64 0, .int .i64 0, .string ⟨#[98]⟩, .int .i64 2, .int .u64 0, .int .u64 0, .int .u64 0, .int .u64 0, .int .u64 0, .int .u64 0, .bool false, .bool false, .int .i64 0, .int .i64 70, .int .i64 90, .int .i64 0, .slice none 0 0, .int .i64 2, .int .i64 50, .int .i64 0, .int .i64 3600, .int .i64 0, .int .i64 0, .int .i64 0, .int .i64 0, .int .i64 0, .int .i64 0, .int .i64 0, .int .i64 0, .int .i64 0, .int .i64 0, .int .i64 0, .string ⟨#[99]⟩, .int .i64 0, .int .u64 0, .int .u64 0, .int .u64 0, .int .u64 0, .int .u64 0, .int .u64 0, .bool false, .bool false, .int .i64 0, .int .i64 0, .int .i64 0, .int .i64 0, .slice none 0 0, .int .i64 3, .int .i64 50, .int .i64 0, .int .i64 3600, .int .i64 0, .int .i64 0, .int .i64 0, .int .i64 0, .int .i64 0, .int .i64 0, .int .i64 0, .int .i64 0, .int .i64 0, .int .i64 0, .int .i64 0]
set_option maxHeartbeats 2000000 in
theorem pol16_ok (n : Int) (w : World) : Calls Tryz.prog 21 #[.int .i64 n] w fun e w' => e = .returned (.agg #[.int .i64 n, .int .i64 50, .int .i64 0, .int .i64 3600, .int .i64 0, .int .i64 0, .int .i64 0, .int .i64 0, .int .i64 0, .int .i64 0, .int .i64 0, .int .i64 0, .int .i64 0, .int .i64 0, .int .i64 0]) ∧ Below w.heap.size w w' := by
  go_enter Tryz.func21, Tryz.ntmps21
  go_wp2
  (try simp only [Exit.inBlock, Exit.then])
  refine bodyPost_ret (results_cell_row rfl _ _ w.heap.size _ _ (0, 0) _ rfl (Blk.new w _ _) Tryz.underlying58 rfl (by kernel_rfl)) rfl ?_
  exact ⟨rfl, (Below.refl _ w).alloc (Nat.le_refl _) _⟩
/-- What each operation of example's great region has yielded. -/
def PE (B : Nat) (i : Nat) (v : Value) (w : World) : Prop := match i with
  | 0 => v = .agg #[.int .i64 2, .int .i64 10, .int .i64 10, .int .i64 60, .int .u64 0, .int .i64 0, .int .i64 0]
  | 1 => v = .agg #[.int .i64 2, .int .u64 0, .int .u64 0, .int .u64 0, .int .u64 0, .int .u64 0, .int .u64 0, .bool false, .bool false, .int .i64 0, .int .i64 10, .int .i64 60, .int .i64 0, .slice none 0 0]
  | 2 => v = .agg #[.int .i64 1, .int .i64 50, .int .i64 0, .int .i64 3600, .int .i64 0, .int .i64 0, .int .i64 0, .int .i64 0, .int .i64 0, .int .i64 0, .int .i64 0, .int .i64 0, .int .i64 0, .int .i64 0, .int .i64 0]
  | 3 => v = .agg #[.string ⟨#[97]⟩, .int .i64 2, .int .u64 0, .int .u64 0, .int .u64 0, .int .u64 0, .int .u64 0, .int .u64 0, .bool false, .bool false, .int .i64 0, .int .i64 10, .int .i64 60, .int .i64 0, .slice none 0 0, .int .i64 1, .int .i64 50, .int .i64 0, .int .i64 3600, .int .i64 0, .int .i64 0, .int .i64 0, .int .i64 0, .int .i64 0, .int .i64 0, .int .i64 0, .int .i64 0, .int .i64 0, .int .i64 0, .int .i64 0]
  | 4 => v = .agg #[.int .i64 2, .int .u64 0, .int .u64 0, .int .u64 0, .int .u64 0, .int .u64 0, .int .u64 0, .bool false, .bool false, .int .i64 0, .int .i64 70, .int .i64 90, .int .i64 0, .slice none 0 0]
  | 5 => v = .agg #[.int .i64 2, .int .i64 50, .int .i64 0, .int .i64 3600, .int .i64 0, .int .i64 0, .int .i64 0, .int .i64 0, .int .i64 0, .int .i64 0, .int .i64 0, .int .i64 0, .int .i64 0, .int .i64 0, .int .i64 0]
  | 6 => v = .agg #[.string ⟨#[98]⟩, .int .i64 2, .int .u64 0, .int .u64 0, .int .u64 0, .int .u64 0, .int .u64 0, .int .u64 0, .bool false, .bool false, .int .i64 0, .int .i64 70, .int .i64 90, .int .i64 0, .slice none 0 0, .int .i64 2, .int .i64 50, .int .i64 0, .int .i64 3600, .int .i64 0, .int .i64 0, .int .i64 0, .int .i64 0, .int .i64 0, .int .i64 0, .int .i64 0, .int .i64 0, .int .i64 0, .int .i64 0, .int .i64 0]
  | 7 => v = .agg #[.int .i64 3, .int .i64 50, .int .i64 0, .int .i64 3600, .int .i64 0, .int .i64 0, .int .i64 0, .int .i64 0, .int .i64 0, .int .i64 0, .int .i64 0, .int .i64 0, .int .i64 0, .int .i64 0, .int .i64 0]
  | 8 => v = .agg #[.string ⟨#[99]⟩, .int .i64 0, .int .u64 0, .int .u64 0, .int .u64 0, .int .u64 0, .int .u64 0, .int .u64 0, .bool false, .bool false, .int .i64 0, .int .i64 0, .int .i64 0, .int .i64 0, .slice none 0 0, .int .i64 3, .int .i64 50, .int .i64 0, .int .i64 3600, .int .i64 0, .int .i64 0, .int .i64 0, .int .i64 0, .int .i64 0, .int .i64 0, .int .i64 0, .int .i64 0, .int .i64 0, .int .i64 0, .int .i64 0]
  | 9 => ∃ g, v = .slice (some ⟨g, 0, none⟩) 3 3 ∧ B + 3 ≤ g ∧ Blk w g 60 exCells
  | 10 => ∃ g, v = .agg #[.int .i64 2, .int .i64 10, .int .i64 10, .int .i64 60, .int .u64 0, .int .i64 0, .int .i64 0, .slice (some ⟨g, 0, none⟩) 3 3] ∧ B + 3 ≤ g ∧ Blk w g 60 exCells
  | 11 => ∃ g, Blk w B 29 #[.int .i64 2, .int .i64 10, .int .i64 10, .int .i64 60, .int .u64 0, .int .i64 0, .int .i64 0, .slice (some ⟨g, 0, none⟩) 3 3] ∧ B + 3 ≤ g ∧ Blk w g 60 exCells
  | _ => True
theorem PE.next {B i : Nat} {v : Value} {w w' : World} (h : PE B i v w) (hb : Below w.heap.size w w') : PE B i v w' := by
  unfold PE at h ⊢
  split at h
  case h_12 => exact h.imp fun _ h => ⟨h.1.below hb h.1.lt, h.2.1, h.2.2.below hb h.2.2.lt⟩
  case h_10 => exact h.imp fun _ h => ⟨h.1, h.2.1, h.2.2.below hb h.2.2.lt⟩
  case h_11 => exact h.imp fun _ h => ⟨h.1, h.2.1, h.2.2.below hb h.2.2.lt⟩
  all_goals exact h
structure InvE (W : World) (listed : Array Bool) (v : Nat → Value) (w : World) : Prop where
  all : ∀ i, listed[i]? = some true → PE W.heap.size i (v i) w
  pa : Blk w (W.heap.size + 1) 52 #[.int .i64 2, .int .u64 0, .int .u64 0, .int .u64 0, .int .u64 0, .int .u64 0, .int .u64 0, .bool false, .bool false, .int .i64 0, .int .i64 10, .int .i64 60, .int .i64 0, .slice none 0 0]
  pb : Blk w (W.heap.size + 2) 52 #[.int .i64 2, .int .u64 0, .int .u64 0, .int .u64 0, .int .u64 0, .int .u64 0, .int .u64 0, .bool false, .bool false, .int .i64 0, .int .i64 70, .int .i64 90, .int .i64 0, .slice none 0 0]
  z : listed[11]? = some false → Blk w W.heap.size 29 #[.int .i64 0, .int .i64 0, .int .i64 0, .int .i64 0, .int .u64 0, .int .i64 0, .int .i64 0, .slice none 0 0]
  below : Below W.heap.size W w
def updE (v : Nat → Value) (i : Nat) (u : Value) : Nat → Value := fun j => if j = i then u else v j
theorem InvE.step {W : World} {listed : Array Bool} {v : Nat → Value} {w w' : World} (h : InvE W listed v w) {i : Nat} {u : Value} (hi : i ≠ 11) (hb : Below w.heap.size w w') (hp : PE W.heap.size i u w') : InvE W (listed.setIfInBounds i true) (updE v i u) w' := by
  refine ⟨fun j hj => ?_, h.pa.below hb h.pa.lt, h.pb.below hb h.pb.lt, fun hz => ?_, h.below.trans (hb.mono h.below.size)⟩
  · unfold updE
    by_cases e : j = i
    · subst e; rw [if_pos rfl]; exact hp
    · rw [if_neg e]
      rw [Array.getElem?_setIfInBounds_ne (fun e' => e e'.symm)] at hj
      exact (h.all j hj).next hb
  · rw [Array.getElem?_setIfInBounds_ne hi] at hz
    have hzz := h.z hz
    exact hzz.below hb hzz.lt
theorem InvE.dep {W : World} {listed : Array Bool} {v : Nat → Value} {w : World} (h : InvE W listed v w) {o : Oper} (ha : ∀ e ∈ o.after, Region.binds .any e = true → listed.getD e.on false = true) (j : Nat) (hj : (o.after.any fun e => Region.binds .any e && e.on == j) = true) : PE W.heap.size j (v j) w := by
  obtain ⟨e, he, h2⟩ := Array.any_eq_true'.1 hj
  rw [Bool.and_eq_true, beq_iff_eq] at h2
  have h3 := ha e he h2.1
  rw [h2.2] at h3
  apply h.all
  rw [Array.getD_eq_getD_getElem?] at h3
  cases hv : listed[j]? with
  | none => rw [hv] at h3; cases h3
  | some b => rw [hv] at h3; simpa using h3
theorem PE.far {B i : Nat} {v : Value} {w : World} (h : PE B i v w) (hi : i ≠ 11) (o : Nat) (u : Value) : PE B i v (w.setCell ⟨B, o, none⟩ u) := by
  unfold PE at h ⊢
  split at h
  case h_12 => exact absurd rfl hi
  all_goals first | exact h | exact h.imp fun _ h => ⟨h.1, h.2.1, h.2.2.far (by simp; omega) _⟩
theorem all_listedE {l : List Oper} {listed : Array Bool} (hs : listed.size = l.length) (hb : ((List.range l.length).all fun i => match l[i]? with | some o => o.after.all (fun e => decide (e.on < i)) | none => true) = true) (h : Region.ready .any l.toArray listed = []) (i : Nat) (hi : i < l.length) : listed[i]? = some true := by
  refine all_listed (md := .any) (ops := l.toArray) (by simpa using hs) (fun j o ho e he => ?_) h i (by simpa using hi)
  have hj : l[j]? = some o := by simpa using ho
  have h1 := List.all_eq_true.1 hb j (List.mem_range.2 (List.getElem?_eq_some_iff.1 hj).1)
  rw [hj] at h1
  simpa using (Array.all_eq_true'.1 h1) e he
set_option maxRecDepth 100000 in
set_option maxHeartbeats 16000000 in
theorem exm_ok (w : World) : Calls Tryz.prog 6 #[] w fun e w' => ∃ g, e = .returned (.agg (cfV (exC g))) ∧ Blk w' g 60 exCells ∧ Below w.heap.size w w' := by
  have CP := Lib.hid (fun n W => pol16_ok n W)
  go_enter Tryz.func6, Tryz.ntmps6
  go_upto_region 3 with fail
  refine wp_region_inv (I := fun listed a wx => ∃ v : Nat → Value, a = ⟨#[.pointer (some ⟨w.heap.size, 0, none⟩), .pointer (some ⟨w.heap.size + 1, 0, none⟩), .pointer (some ⟨w.heap.size + 1 + 1, 0, none⟩), .agg #[.int .i64 10, .int .i64 60, .int .i64 0], .agg #[.int .i64 2, .int .u64 0, .int .u64 0, .int .u64 0, .int .u64 0, .int .u64 0, .int .u64 0, .bool false, .bool false, .int .i64 0, .int .i64 10, .int .i64 60, .int .i64 0, .slice none 0 0], .agg #[.int .i64 70, .int .i64 90, .int .i64 0], .agg #[.int .i64 2, .int .u64 0, .int .u64 0, .int .u64 0, .int .u64 0, .int .u64 0, .int .u64 0, .bool false, .bool false, .int .i64 0, .int .i64 70, .int .i64 90, .int .i64 0, .slice none 0 0], v 0, v 1, v 2, v 3, v 4, v 5, v 6, v 7, v 8, v 9, v 10], []⟩ ∧ InvE w listed v wx) (by kernel_rfl) ?_ ?_ ?_
  · have h0 := Blk.new w 29 #[.int .i64 0, .int .i64 0, .int .i64 0, .int .i64 0, .int .u64 0, .int .i64 0, .int .i64 0, .slice none 0 0]
    have h1 : Blk ((w.alloc (.cells #[.int .i64 0, .int .i64 0, .int .i64 0, .int .i64 0, .int .u64 0, .int .i64 0, .int .i64 0, .slice none 0 0] 29)).alloc (.cells #[.int .i64 2, .int .u64 0, .int .u64 0, .int .u64 0, .int .u64 0, .int .u64 0, .int .u64 0, .bool false, .bool false, .int .i64 0, .int .i64 10, .int .i64 60, .int .i64 0, .slice none 0 0] 52)) (w.heap.size + 1) 52 #[.int .i64 2, .int .u64 0, .int .u64 0, .int .u64 0, .int .u64 0, .int .u64 0, .int .u64 0, .bool false, .bool false, .int .i64 0, .int .i64 10, .int .i64 60, .int .i64 0, .slice none 0 0] := Blk.newAt (by simp)
    have h2 : Blk (((w.alloc (.cells #[.int .i64 0, .int .i64 0, .int .i64 0, .int .i64 0, .int .u64 0, .int .i64 0, .int .i64 0, .slice none 0 0] 29)).alloc (.cells #[.int .i64 2, .int .u64 0, .int .u64 0, .int .u64 0, .int .u64 0, .int .u64 0, .int .u64 0, .bool false, .bool false, .int .i64 0, .int .i64 10, .int .i64 60, .int .i64 0, .slice none 0 0] 52)).alloc (.cells #[.int .i64 2, .int .u64 0, .int .u64 0, .int .u64 0, .int .u64 0, .int .u64 0, .int .u64 0, .bool false, .bool false, .int .i64 0, .int .i64 70, .int .i64 90, .int .i64 0, .slice none 0 0] 52)) (w.heap.size + 2) 52 #[.int .i64 2, .int .u64 0, .int .u64 0, .int .u64 0, .int .u64 0, .int .u64 0, .int .u64 0, .bool false, .bool false, .int .i64 0, .int .i64 70, .int .i64 90, .int .i64 0, .slice none 0 0] := Blk.newAt (by simp)
    exact ⟨fun _ => undef, rfl, ⟨fun i hi => by
      exfalso
      rw [Array.getElem?_replicate] at hi
      split at hi <;> simp at hi, (h1.alloc _).drew, h2.drew, fun _ => ((h0.alloc _).alloc _).drew, below_drewN ((((Below.refl _ w).alloc (Nat.le_refl _) _).alloc (by simp) _).alloc (by simp; omega) _) 1⟩⟩
  · rintro listed a wx i o hsz ho hli ha ⟨v, rfl, hI⟩
    have HV := Lib.hid hI
    have hi : i < 12 := (List.getElem?_eq_some_iff.1 ho).1
    clear hI hsz
    obtain rfl | rfl | rfl | rfl | rfl | rfl | rfl | rfl | rfl | rfl | rfl | rfl : i = 0 ∨ i = 1 ∨ i = 2 ∨ i = 3 ∨ i = 4 ∨ i = 5 ∨ i = 6 ∨ i = 7 ∨ i = 8 ∨ i = 9 ∨ i = 10 ∨ i = 11 := by omega
    · -- operation 0
      cases ho
      refine wpOp_step rfl (fun K hK => ?_)
      go_simp
      exact hK _ _ ⟨updE v 0 _, rfl, HV.out.step (by decide) (Below.refl _ _) rfl⟩
    · -- operation 1
      cases ho
      have c0 : wx.cell? ⟨w.heap.size + 1, 0, none⟩ = some (.int .i64 2) := HV.out.pa.cell 0
      have c1 : wx.cell? ⟨w.heap.size + 1, 1, none⟩ = some (.int .u64 0) := HV.out.pa.cell 1
      have c2 : wx.cell? ⟨w.heap.size + 1, 2, none⟩ = some (.int .u64 0) := HV.out.pa.cell 2
      have c3 : wx.cell? ⟨w.heap.size + 1, 3, none⟩ = some (.int .u64 0) := HV.out.pa.cell 3
      have c4 : wx.cell? ⟨w.heap.size + 1, 4, none⟩ = some (.int .u64 0) := HV.out.pa.cell 4
      have c5 : wx.cell? ⟨w.heap.size + 1, 5, none⟩ = some (.int .u64 0) := HV.out.pa.cell 5
      have c6 : wx.cell? ⟨w.heap.size + 1, 6, none⟩ = some (.int .u64 0) := HV.out.pa.cell 6
      have c7 : wx.cell? ⟨w.heap.size + 1, 7, none⟩ = some (.bool false) := HV.out.pa.cell 7
      have c8 : wx.cell? ⟨w.heap.size + 1, 8, none⟩ = some (.bool false) := HV.out.pa.cell 8
      have c9 : wx.cell? ⟨w.heap.size + 1, 9, none⟩ = some (.int .i64 0) := HV.out.pa.cell 9
      have c10 : wx.cell? ⟨w.heap.size + 1, 10, none⟩ = some (.int .i64 10) := HV.out.pa.cell 10
      have c11 : wx.cell? ⟨w.heap.size + 1, 11, none⟩ = some (.int .i64 60) := HV.out.pa.cell 11
      have c12 : wx.cell? ⟨w.heap.size + 1, 12, none⟩ = some (.int .i64 0) := HV.out.pa.cell 12
      have c13 : wx.cell? ⟨w.heap.size + 1, 13, none⟩ = some (.slice none 0 0) := HV.out.pa.cell 13
      refine wpOp_step rfl (fun K hK => ?_)
      go_simp
      exact hK _ _ ⟨updE v 1 _, rfl, HV.out.step (by decide) (Below.refl _ _) rfl⟩
    · -- operation 2
      cases ho
      refine wpOp_step rfl (fun K hK => ?_)
      go_simp
      refine (CP.out 1 _).mono ?_
      rintro _ w5 ⟨rfl, hb⟩
      exact hK _ _ ⟨updE v 2 _, rfl, HV.out.step (by decide) hb rfl⟩
    · -- operation 3
      cases ho
      have h1 := HV.out.dep ha 1 (by kernel_rfl)
      replace h1 : v 1 = _ := h1
      have h2 := HV.out.dep ha 2 (by kernel_rfl)
      replace h2 : v 2 = _ := h2
      refine wpOp_step rfl (fun K hK => ?_)
      go_simp
      exact hK _ _ ⟨updE v 3 _, by simp [updE, h1, h2], HV.out.step (by decide) (Below.refl _ _) rfl⟩
    · -- operation 4
      cases ho
      have c0 : wx.cell? ⟨w.heap.size + 2, 0, none⟩ = some (.int .i64 2) := HV.out.pb.cell 0
      have c1 : wx.cell? ⟨w.heap.size + 2, 1, none⟩ = some (.int .u64 0) := HV.out.pb.cell 1
      have c2 : wx.cell? ⟨w.heap.size + 2, 2, none⟩ = some (.int .u64 0) := HV.out.pb.cell 2
      have c3 : wx.cell? ⟨w.heap.size + 2, 3, none⟩ = some (.int .u64 0) := HV.out.pb.cell 3
      have c4 : wx.cell? ⟨w.heap.size + 2, 4, none⟩ = some (.int .u64 0) := HV.out.pb.cell 4
      have c5 : wx.cell? ⟨w.heap.size + 2, 5, none⟩ = some (.int .u64 0) := HV.out.pb.cell 5
      have c6 : wx.cell? ⟨w.heap.size + 2, 6, none⟩ = some (.int .u64 0) := HV.out.pb.cell 6
      have c7 : wx.cell? ⟨w.heap.size + 2, 7, none⟩ = some (.bool false) := HV.out.pb.cell 7
      have c8 : wx.cell? ⟨w.heap.size + 2, 8, none⟩ = some (.bool false) := HV.out.pb.cell 8
      have c9 : wx.cell? ⟨w.heap.size + 2, 9, none⟩ = some (.int .i64 0) := HV.out.pb.cell 9
      have c10 : wx.cell? ⟨w.heap.size + 2, 10, none⟩ = some (.int .i64 70) := HV.out.pb.cell 10
      have c11 : wx.cell? ⟨w.heap.size + 2, 11, none⟩ = some (.int .i64 90) := HV.out.pb.cell 11
      have c12 : wx.cell? ⟨w.heap.size + 2, 12, none⟩ = some (.int .i64 0) := HV.out.pb.cell 12
      have c13 : wx.cell? ⟨w.heap.size + 2, 13, none⟩ = some (.slice none 0 0) := HV.out.pb.cell 13
      refine wpOp_step rfl (fun K hK => ?_)
      go_simp
      exact hK _ _ ⟨updE v 4 _, rfl, HV.out.step (by decide) (Below.refl _ _) rfl⟩
    · -- operation 5
      cases ho
      refine wpOp_step rfl (fun K hK => ?_)
      go_simp
      refine (CP.out 2 _).mono ?_
      rintro _ w5 ⟨rfl, hb⟩
      exact hK _ _ ⟨updE v 5 _, rfl, HV.out.step (by decide) hb rfl⟩
    · -- operation 6
      cases ho
      have h4 := HV.out.dep ha 4 (by kernel_rfl)
      replace h4 : v 4 = _ := h4
      have h5 := HV.out.dep ha 5 (by kernel_rfl)
      replace h5 : v 5 = _ := h5
      refine wpOp_step rfl (fun K hK => ?_)
      go_simp
      exact hK _ _ ⟨updE v 6 _, by simp [updE, h4, h5], HV.out.step (by decide) (Below.refl _ _) rfl⟩
    · -- operation 7
      cases ho
      refine wpOp_step rfl (fun K hK => ?_)
      go_simp
      refine (CP.out 3 _).mono ?_
      rintro _ w5 ⟨rfl, hb⟩
      exact hK _ _ ⟨updE v 7 _, rfl, HV.out.step (by decide) hb rfl⟩
    · -- operation 8
      cases ho
      have h7 := HV.out.dep ha 7 (by kernel_rfl)
      replace h7 : v 7 = _ := h7
      refine wpOp_step rfl (fun K hK => ?_)
      go_simp
      exact hK _ _ ⟨updE v 8 _, by simp [updE, h7], HV.out.step (by decide) (Below.refl _ _) rfl⟩
    · -- operation 9
      cases ho
      have h3 := HV.out.dep ha 3 (by kernel_rfl)
      replace h3 : v 3 = _ := h3
      have h6 := HV.out.dep ha 6 (by kernel_rfl)
      replace h6 : v 6 = _ := h6
      have h8 := HV.out.dep ha 8 (by kernel_rfl)
      replace h8 : v 8 = _ := h8
      have hge := HV.out.pb.lt
      refine wpOp_step rfl (fun K hK => ?_)
      go_simp
      exact hK _ _ ⟨updE v 9 _, by simp [updE, h3, h6, h8], HV.out.step (by decide) ((Below.refl _ _).alloc (Nat.le_refl _) _) ⟨wx.heap.size, rfl, by omega, Blk.new wx _ _⟩⟩
    · -- operation 10
      cases ho
      have h0 := HV.out.dep ha 0 (by kernel_rfl)
      replace h0 : v 0 = _ := h0
      have h9 := HV.out.dep ha 9 (by kernel_rfl)
      obtain ⟨g, hv9, hg, hbk⟩ : ∃ g, v 9 = .slice (some ⟨g, 0, none⟩) 3 3 ∧ w.heap.size + 3 ≤ g ∧ Blk wx g 60 exCells := h9
      refine wpOp_step rfl (fun K hK => ?_)
      go_simp
      exact hK _ _ ⟨updE v 10 _, by simp [updE, h0, hv9], HV.out.step (by decide) (Below.refl _ _) ⟨g, rfl, hg, hbk⟩⟩
    · -- operation 11
      cases ho
      have h10 := HV.out.dep ha 10 (by kernel_rfl)
      obtain ⟨g, hv10, hg, hbk⟩ : ∃ g, v 10 = .agg #[.int .i64 2, .int .i64 10, .int .i64 10, .int .i64 60, .int .u64 0, .int .i64 0, .int .i64 0, .slice (some ⟨g, 0, none⟩) 3 3] ∧ w.heap.size + 3 ≤ g ∧ Blk wx g 60 exCells := h10
      have hz := HV.out.z hli
      have c0 : wx.cell? ⟨w.heap.size, 0, none⟩ = some (.int .i64 0) := hz.cell 0
      have f0 : wx.frozen? ⟨w.heap.size, 0, none⟩ = false := hz.frozen 0
      have c1 : wx.cell? ⟨w.heap.size, 1, none⟩ = some (.int .i64 0) := hz.cell 1
      have f1 : wx.frozen? ⟨w.heap.size, 1, none⟩ = false := hz.frozen 1
      have c2 : wx.cell? ⟨w.heap.size, 2, none⟩ = some (.int .i64 0) := hz.cell 2
      have f2 : wx.frozen? ⟨w.heap.size, 2, none⟩ = false := hz.frozen 2
      have c3 : wx.cell? ⟨w.heap.size, 3, none⟩ = some (.int .i64 0) := hz.cell 3
      have f3 : wx.frozen? ⟨w.heap.size, 3, none⟩ = false := hz.frozen 3
      have c4 : wx.cell? ⟨w.heap.size, 4, none⟩ = some (.int .u64 0) := hz.cell 4
      have f4 : wx.frozen? ⟨w.heap.size, 4, none⟩ = false := hz.frozen 4
      have c5 : wx.cell? ⟨w.heap.size, 5, none⟩ = some (.int .i64 0) := hz.cell 5
      have f5 : wx.frozen? ⟨w.heap.size, 5, none⟩ = false := hz.frozen 5
      have c6 : wx.cell? ⟨w.heap.size, 6, none⟩ = some (.int .i64 0) := hz.cell 6
      have f6 : wx.frozen? ⟨w.heap.size, 6, none⟩ = false := hz.frozen 6
      have c7 : wx.cell? ⟨w.heap.size, 7, none⟩ = some (.slice none 0 0) := hz.cell 7
      have f7 : wx.frozen? ⟨w.heap.size, 7, none⟩ = false := hz.frozen 7
      refine wpOp_step rfl (fun K hK => ?_)
      go_simp
      refine hK _ _ ⟨v, by simp [hv10], ?_⟩
      have hI := HV.out
      refine ⟨fun j hj => ?_, ?_, ?_, fun hzz => ?_, ?_⟩
      · by_cases e : j = 11
        · subst e
          refine ⟨g, ?_, hg, ?_⟩
          · have h' := (((((((hz.set_ 0 (.int .i64 2)).set_ 1 (.int .i64 10)).set_ 2 (.int .i64 10)).set_ 3 (.int .i64 60)).set_ 4 (.int .u64 0)).set_ 5 (.int .i64 0)).set_ 6 (.int .i64 0)).set_ 7 (.slice (some ⟨g, 0, none⟩) 3 3)
            simpa using h'
          · exact (((((((hbk.far (by simp; omega) _).far (by simp; omega) _).far (by simp; omega) _).far (by simp; omega) _).far (by simp; omega) _).far (by simp; omega) _).far (by simp; omega) _).far (by simp; omega) _
        · rw [Array.getElem?_setIfInBounds_ne (fun e' => e e'.symm)] at hj
          exact ((((((((hI.all j hj).far e _ _).far e _ _).far e _ _).far e _ _).far e _ _).far e _ _).far e _ _).far e _ _
      · exact (((((((hI.pa.far (by simp) _).far (by simp) _).far (by simp) _).far (by simp) _).far (by simp) _).far (by simp) _).far (by simp) _).far (by simp) _
      · exact (((((((hI.pb.far (by simp) _).far (by simp) _).far (by simp) _).far (by simp) _).far (by simp) _).far (by simp) _).far (by simp) _).far (by simp) _
      · exfalso
        have hb11 : 11 < listed.size := (Array.getElem?_eq_some_iff.1 hli).1
        simp [hb11] at hzz
      · exact (((((((hI.below.setCell (Nat.le_refl _) _).setCell (Nat.le_refl _) _).setCell (Nat.le_refl _) _).setCell (Nat.le_refl _) _).setCell (Nat.le_refl _) _).setCell (Nat.le_refl _) _).setCell (Nat.le_refl _) _).setCell (Nat.le_refl _) _
  · rintro listed a wx hsz hr ⟨v, rfl, hI⟩
    obtain ⟨g, h1, h2, h3⟩ := hI.all 11 (all_listedE hsz (by kernel_rfl) hr 11 (by decide))
    have HB := Lib.hid hI.below
    have H1 := Lib.hid h1
    have H3 := Lib.hid h3
    clear hI hr hsz h1 h2 h3
    go_wp2_with fail
    (try simp only [Exit.inBlock, Exit.then])
    refine bodyPost_ret (results_cell_row rfl _ _ w.heap.size _ _ (0, 0) _ rfl H1.out Tryz.underlying29 rfl (by kernel_rfl)) rfl ?_
    exact ⟨g, rfl, H3.out, HB.out⟩
end Go.Proofs.YtihadbkjfocdoaaGreatDoor.BW
namespace Go.Proofs.YtihadbkjfocdoaaGreatDoor.BW
open Go.RowKit BM Go.Shelf MC RK
open BK hiding ret_bool ret_i64

/-- Whether a configuration is looked at. -/
def FewP (c : Cf) (L : JL) : Prop := c.n ≤ 100 ∧ ∀ k (hk : k < L.length), L[k].1.p.n ≤ 100 ∧ L[k].1.nm.size ≤ 100
theorem FewP.arg {w : World} {c : Cf} {L : JL} (h : FewP c L) (hI : CIn w c L) (hT : SpTab w) (hTab : Tab w) : CArg w c L := ⟨hI, by have := h.1; omega, fun k hk => Nat.le_trans (h.2 k hk).1 (by decide), hT, hTab⟩
set_option maxRecDepth 8000 in
set_option maxHeartbeats 4000000 in
theorem few_ok (c : Cf) (L : JL) (w : World) (hI : CIn w c L) (hn9 : c.n ≤ 9223372036854775807) : Calls Tryz.prog 16 #[.agg (cfV c)] w fun e w' => (e = .returned (.bool false) ∧ Below w.heap.size w w') ∨ (e = .returned (.bool true) ∧ FewP c L ∧ Below w.heap.size w w') := by
  obtain ⟨W1, hW1⟩ : ∃ W1, W1 = w.alloc (.cells (cfV c) 29) := ⟨_, rfl⟩
  have hB : Below w.heap.size w W1 := by rw [hW1]; exact (Below.refl _ w).alloc (Nat.le_refl _) _
  have hx : Blk W1 w.heap.size 29 (cfV c) := by rw [hW1]; exact Blk.new w _ _
  have k7 : W1.cell? ⟨w.heap.size, 7, none⟩ = some (.slice c.a c.n c.c) := hx.cell 7
  have HJ := Lib.hid (hI.at_.below hB)
  have HB := Lib.hid hB
  have HN := Lib.hid hI.n
  have HF : Hid (c.n ≤ 100 → (∀ k (hk : k < L.length), L[k].1.p.n ≤ 100 ∧ L[k].1.nm.size ≤ 100) → FewP c L) := Lib.hid (fun h1 h2 => ⟨h1, h2⟩)
  have e0 : cfV c = #[.int .i64 c.g.cap, .int .i64 c.g.q, .int .i64 c.g.ar, .int .i64 c.g.ag, .int .u64 c.g.sd, .int .i64 c.g.t, .int .i64 c.g.tau, .slice c.a c.n c.c] := rfl
  rw [e0] at hW1 ⊢
  clear hB hx hI e0
  generalize hFP : FewP c L = FP at *
  clear hFP
  obtain ⟨cg, ca, cn, cc⟩ := c
  simp only at *
  by_cases h100 : 100 < cn
  · have d1 : decide (100 < cn) = true := decide_eq_true h100
    have d2 : decide ((100 : Int) < cn) = true := decide_eq_true (by omega)
    clear h100
    go_enter Tryz.func16, Tryz.ntmps16
    go_upto_region 1 with fail
    rw [← hW1]
    clear hW1
    go_wp2_with fail
    go_ret
    exact .inl ⟨rfl, HB.out⟩
  · have d1 : decide (100 < cn) = false := decide_eq_false h100
    have d2 : decide ((100 : Int) < cn) = false := decide_eq_false (by omega)
    have hn1 : cn ≤ 100 := by omega
    have HF := Lib.hid (HF.out hn1)
    clear h100 hn9
    go_enter Tryz.func16, Tryz.ntmps16
    go_upto_region 1 with fail
    rw [← hW1]
    clear hW1
    go_wp2_with fail
    go_loop [3] (fun s3 => ∃ k : Nat, k ≤ cn ∧ s3 = .int .i64 k ∧ ∀ i (hi : i < L.length), i < k → L[i].1.p.n ≤ 100 ∧ L[i].1.nm.size ≤ 100) (fun s3 => cn - intJ s3)
    case atStart => exact ⟨0, Nat.zero_le _, rfl, fun i hi h => absurd h (Nat.not_lt_zero _)⟩
    case round =>
      obtain ⟨k, hk, rfl, hok⟩ := hrel
      have HOK := Lib.hid hok
      clear hok
      rcases Nat.lt_or_ge k cn with hlt | hge
      · have hkl : k < L.length := by have := HN.out; omega
        obtain ⟨b, off, rfl, hcl, -⟩ := HJ.out k hkl
        have c0 : W1.cell? ⟨b, off + k * 30, none⟩ = some (.string L[k].1.nm) := hcl 0 (by decide)
        have c14 : W1.cell? ⟨b, off + k * 30 + 14, none⟩ = some (.slice L[k].1.p.a L[k].1.p.n L[k].1.p.c) := hcl 14 (by decide)
        have c14' : W1.cell? ⟨b, off + k * 30 + 1 + 13, none⟩ = some (.slice L[k].1.p.a L[k].1.p.n L[k].1.p.c) := hcl 14 (by decide)
        have HY := Lib.hid (fun (he : L[k].1.p.n ≤ 100 ∧ L[k].1.nm.size ≤ 100) i (hi : i < L.length) (h : i < k + 1) => (by
          rcases Nat.lt_or_ge i k with h4 | h4
          · exact HOK.out i hi h4
          · obtain rfl : i = k := by omega
            exact he : L[i].1.p.n ≤ 100 ∧ L[i].1.nm.size ≤ 100))
        clear hcl
        generalize L[k].1.p = p at *
        generalize L[k].1.nm = nm at *
        by_cases h1 : 100 < p.n
        · have g1 : decide (100 < p.n) = true := decide_eq_true h1
          have g2 : decide ((100 : Int) < p.n) = true := decide_eq_true (by omega)
          clear h1 HY
          go_wp2_with fail
          go_ret
          exact .inl ⟨rfl, HB.out⟩
        · have g1 : decide (100 < p.n) = false := decide_eq_false h1
          have g2 : decide ((100 : Int) < p.n) = false := decide_eq_false (by omega)
          by_cases h2 : 100 < nm.size
          · have g3 : decide (100 < nm.size) = true := decide_eq_true h2
            have g4 : decide ((100 : Int) < nm.size) = true := decide_eq_true (by omega)
            clear h1 h2 HY
            go_wp2_with fail
            go_ret
            exact .inl ⟨rfl, HB.out⟩
          · have g3 : decide (100 < nm.size) = false := decide_eq_false h2
            have g4 : decide ((100 : Int) < nm.size) = false := decide_eq_false (by omega)
            have HY2 := Lib.hid (HY.out ⟨by omega, by omega⟩)
            clear h1 h2 HY
            go_wp2_with fail
            refine ⟨⟨k + 1, by omega, by go_num, HY2.out⟩, ?_⟩
            simp [intJ]; omega
      · obtain rfl : cn = k := by omega
        have HE := Lib.hid (HF.out (fun i hi => HOK.out i hi (by have := HN.out; omega)))
        clear HOK
        go_wp2_with fail
        go_ret
        exact .inr ⟨rfl, HE.out, HB.out⟩
set_option maxRecDepth 8000 in
set_option maxHeartbeats 2000000 in
theorem ints16 (a b : Option Addr) (ys : List Int) (n c d : Nat) (hn : ys.length = n) (hn9 : n ≤ 200000) (w : World) (ha : IntsAt w a ys) (hb : IntsAt w b ys) :
    Calls Tryz.prog 10 #[.slice a n c, .slice b n d] w fun e w' => e = .returned (.bool true) ∧ Below w.heap.size w w' := by
  have HA := Lib.hid ha
  have HB := Lib.hid hb
  have HN := Lib.hid hn
  clear ha hb hn
  go_enter Tryz.func10, Tryz.ntmps10
  go_wp2_with fail
  go_loopw [5] (fun s5 wr => ∃ k : Nat, k ≤ n ∧ s5 = .int .i64 k ∧ Below w.heap.size w wr) (fun s5 _ => n - intM s5)
  case atStart => exact ⟨0, by omega, rfl, Below.refl _ _⟩
  case round =>
    obtain ⟨k, hk, rfl, hbl⟩ := hrel
    rcases Nat.lt_or_ge k n with hlt | hge
    · obtain ⟨b1, o1, rfl, h1⟩ := (HA.out) k (by have := HN.out; omega)
      obtain ⟨b2, o2, rfl, h2⟩ := (HB.out) k (by have := HN.out; omega)
      have k1 := cell_regrown ((hbl.cell (p := ⟨b1, o1 + k, none⟩) (World.block_lt_of_cell? w _ h1)).trans h1)
      have k2 := cell_regrown ((hbl.cell (p := ⟨b2, o2 + k, none⟩) (World.block_lt_of_cell? w _ h2)).trans h2)
      clear h1 h2
      generalize ys[k]'(by have := HN.out; omega) = v at *
      have hq : (v != v) = false := by simp
      have hw : IntKind.i64.wrap ((k : Int) + 1) = (k : Int) + 1 := IntWalk.i64_in _ (by omega)
      go_wp2_with fail
      refine wp_region_quiet_below (by kernel_rfl) (by kernel_rfl) ?_
      repeat (go_big_quiet_step (fail))
      refine wpQuiet_nil ?_
      intro _ hw'
      obtain ⟨⟨dq, osq⟩, hw''⟩ := hw'
      subst hw''
      go_wp2_with fail
      refine ⟨⟨k + 1, by omega, by go_num, hbl.trans ((below_regrown wr dq osq).mono hbl.size)⟩, ?_⟩
      simp [intM]; omega
    · obtain rfl : k = n := by omega
      go_wp2_with fail
      go_ret
      exact ⟨rfl, hbl⟩
end Go.Proofs.YtihadbkjfocdoaaGreatDoor.BW
namespace Go.Proofs.YtihadbkjfocdoaaGreatDoor.BW
open Go.RowKit BM Go.Shelf MC RK
open BK hiding ret_bool ret_i64

/-- Jobs that lie in one block from its first cell on. -/
theorem jobs_of {w : World} {E : Nat} {cs : Array Value} {L : JL} (hE : Blk w E 60 cs) (hc : cs.toList = L.flatMap (fun x => (jbV x.1).toList)) (h : ∀ x ∈ L, PIn w x.1.p x.2) : JobsAt w (some ⟨E, 0, none⟩) L := fun k hk => by
  refine ⟨E, 0, rfl, fun i hi => ?_, h _ (List.getElem_mem hk)⟩
  rw [Nat.zero_add, hE.cell, ← Array.getElem?_toList, hc]
  clear hc hE h cs
  induction L generalizing k with
  | nil => simp at hk
  | cons x L ih =>
    have h30 : (jbV x.1).toList.length = 30 := rfl
    rw [List.flatMap_cons]
    cases k with
    | zero =>
      rw [Nat.zero_mul, Nat.zero_add, List.getElem?_append_left (by rw [h30]; exact hi)]
      show (jbV x.1).toList[i]? = (jbV x.1)[i]?
      exact Array.getElem?_toList
    | succ k =>
      rw [List.getElem?_append_right (by rw [h30]; omega), h30, show (k + 1) * 30 + i - 30 = k * 30 + i by omega]
      exact ih k (by simpa using hk)
theorem PIn.plain {w : World} {p : Pl} (hx : U64s p.x) (hn : p.n = 0) : PIn w p [] := ⟨hx, hn.symm, SpansAt.nil _ _⟩
theorem ex_jobs {w : World} {g : Nat} (h : Blk w g 60 exCells) : JobsAt w (some ⟨g, 0, none⟩) exL :=
  jobs_of h rfl (fun x hx => by
    unfold exL at hx
    simp only [List.mem_cons, List.not_mem_nil, or_false] at hx
    rcases hx with rfl | rfl | rfl <;> exact PIn.plain u64_zX rfl)
theorem ex_p : ∀ x ∈ exL, x.1.p.n ≤ 200 := fun x hx => by
  have h := List.all_eq_true.1 (show exL.all (fun x => decide (x.1.p.n ≤ 200)) = true by decide +kernel) x hx
  simpa using h
theorem ex_nm : ∀ x ∈ exL, nameB x.1.nm = true := List.all_eq_true.1 (show exL.all (fun x => nameB x.1.nm) = true by decide +kernel)
theorem ex_okJ : ∀ x ∈ exL, okJ x = true := List.all_eq_true.1 (show exL.all okJ = true by decide +kernel)
theorem ex_arg {w : World} {g : Nat} (h : Blk w g 60 exCells) (h1 : SpTab w) (h2 : Tab w) : CArg w (exC g) exL :=
  ⟨⟨rfl, ex_jobs h, (show (0 : Nat) < 18446744073709551616 by decide)⟩, (show (3 : Nat) ≤ 200 by decide), fun k hk => ex_p _ (List.getElem_mem hk), h1, h2⟩
def exN : List ByteArray := [⟨#[97]⟩, ⟨#[98]⟩, ⟨#[99]⟩]
theorem ex_apart : ∀ i k : Fin 3, k.val < i.val → sEq (exN.getD k.val ⟨#[]⟩) (exN.getD i.val ⟨#[]⟩) = false := by decide +kernel
theorem ex_name {k : Nat} (hk : k < exL.length) : exL[k].1.nm = exN.getD k ⟨#[]⟩ := by
  have : k = 0 ∨ k = 1 ∨ k = 2 := by simp [exL] at hk; omega
  rcases this with rfl | rfl | rfl <;> rfl
theorem exOk : CfOk exG exL where
  gl := by decide +kernel
  many := by decide
  nms := fun k hk => ex_nm _ (List.getElem_mem hk)
  new := fun i hi k hk _ hki => by
    have h1 : i < 3 := hi
    have := ex_apart ⟨i, h1⟩ ⟨k, by omega⟩ hki
    intro h
    rw [ex_name hk, ex_name hi] at h
    rw [sEq_iff.2 h] at this
    cases this
  all := fun k hk => ex_okJ _ (List.getElem_mem hk)
theorem cdE_ex {t : Int} (h : vT t = true) : cdE exG exL t = 0 := by unfold cdE; rw [if_pos (cfE_zero.2 exOk), if_pos h]
theorem isP_pEv (s p : Int) : isP (pEv s p) [] = fun t => (⟨s, p, 0⟩ : Ev).has t := by
  funext t
  unfold isP qK
  have h1 : ¬ (pEv s p).k = 1 := fun h => absurd (show (2 : Int) = 1 from h) (by decide)
  rw [if_neg h1, if_pos (show (pEv s p).k = 2 from rfl)]
  show ((⟨s, p, 0⟩ : Ev).has t && !false) = _
  rw [Bool.not_false, Bool.and_true]
theorem isP_pNo (t : Int) : isP pNo [] t = false := by
  unfold isP qK
  rw [if_neg (show ¬ pNo.k = 1 by decide), if_neg (show ¬ pNo.k = 2 by decide)]
  rfl
theorem pl_exA : plE (pEv 10 60) [] = 0 := by decide +kernel
theorem pl_exB : plE (pEv 70 90) [] = 0 := by decide +kernel
theorem pl_exN : plE pNo [] = 0 := by decide +kernel
theorem plans_ex : plansOf exL = [(pEv 10 60, []), (pEv 70 90, []), (pNo, [])] := rfl
theorem cdV_ex : cdV exG exL 70 = [0, 1] := by
  unfold cdV
  rw [if_pos (cdE_ex (by decide)), plans_ex]
  have e1 : isP (pEv 10 60) [] 70 = true := by rw [isP_pEv]; decide +kernel
  have e2 : isP (pEv 70 90) [] 70 = true := by rw [isP_pEv]; decide +kernel
  simp only [dueA, e1, e2, isP_pNo, if_true, Bool.false_eq_true, if_false]
  rfl
/-- The next time of a schedule, found by looking at each. -/
theorem nx_ev {s p t n : Int} (h0 : plE (pEv s p) [] = 0) (ht : 0 ≤ t ∧ t ≤ 253402300799) (hn : t < n ∧ n ≤ 253402300799) (hy : (⟨s, p, 0⟩ : Ev).has n = true) (hz : ∀ m, t < m → m < n → (⟨s, p, 0⟩ : Ev).has m = false) : nxQ (pEv s p) [] t = some n := by
  rw [nxQ_ok (fin_one h0 ht), nxP_fr, isP_pEv]
  exact frP_some.2 ⟨⟨by omega, hn.2, hy⟩, fun m m1 m2 => hz m (by omega) m2⟩
theorem nx_no {t : Int} (ht : 0 ≤ t ∧ t ≤ 253402300799) : nxQ pNo [] t = none := by
  rw [nxQ_ok (fin_one pl_exN ht), nxP_fr]
  exact frP_none.2 (fun m _ _ => isP_pNo m)
theorem nx_A : nxQ (pEv 10 60) [] 10 = some 70 := nx_ev pl_exA (by decide) (by decide) (by decide +kernel) (fun m m1 m2 => by
  have h : ∀ k : Fin 59, (⟨10, 60, 0⟩ : Ev).has (11 + (k.val : Int)) = false := by decide +kernel
  have h2 := h ⟨(m - 11).toNat, by omega⟩
  have e : (11 : Int) + ((m - 11).toNat : Int) = m := by omega
  simp only [e] at h2
  exact h2)
theorem nx_B : nxQ (pEv 70 90) [] 10 = some 70 := nx_ev pl_exB (by decide) (by decide) (by decide +kernel) (fun m m1 m2 => by
  have h : ∀ k : Fin 59, (⟨70, 90, 0⟩ : Ev).has (11 + (k.val : Int)) = false := by decide +kernel
  have h2 := h ⟨(m - 11).toNat, by omega⟩
  have e : (11 : Int) + ((m - 11).toNat : Int) = m := by omega
  simp only [e] at h2
  exact h2)
theorem cnS_ex : cnS exG exL 10 = (some 70, [0, 1]) := by
  unfold cnS
  rw [if_pos (cdE_ex (by decide)), plans_ex]
  show nxA 10 [(pEv 10 60, []), (pEv 70 90, []), (pNo, [])] 3 = _
  rw [nxA_succ (k := 2) (p := pNo) (l := []) rfl, nxA_succ (k := 1) (p := pEv 70 90) (l := []) rfl, nxA_succ (k := 0) (p := pEv 10 60) (l := []) rfl, nx_A, nx_B, nx_no (by decide)]
  rfl
theorem fd_ex : fdI exL ⟨#[98]⟩ = 1 ∧ fdB exL ⟨#[98]⟩ = true := by decide +kernel
structure WkC (w : World) (b g : Nat) (W : World) : Prop where
  box : Blk W b 29 (cfV (exC g))
  arg : CArg W (exC g) exL
  below : Below w.heap.size w W
theorem WkC.next {w : World} {b g : Nat} {X Y : World} (h : WkC w b g X) (hb : Below X.heap.size X Y) : WkC w b g Y := ⟨h.box.below hb h.box.lt, h.arg.below hb, h.below.trans (hb.mono h.below.size)⟩
theorem cfV_ex (g : Nat) : cfV (exC g) = #[.int .i64 2, .int .i64 10, .int .i64 10, .int .i64 60, .int .u64 0, .int .i64 0, .int .i64 0, .slice (some ⟨g, 0, none⟩) 3 3] := rfl
theorem WkC.cells {w : World} {b g : Nat} {W : World} (h : WkC w b g W) : W.cell? ⟨b, 0, none⟩ = some (.int .i64 2) ∧ W.cell? ⟨b, 1, none⟩ = some (.int .i64 10) ∧ W.cell? ⟨b, 2, none⟩ = some (.int .i64 10) ∧ W.cell? ⟨b, 3, none⟩ = some (.int .i64 60) ∧ W.cell? ⟨b, 4, none⟩ = some (.int .u64 0) ∧ W.cell? ⟨b, 5, none⟩ = some (.int .i64 0) ∧ W.cell? ⟨b, 6, none⟩ = some (.int .i64 0) ∧ W.cell? ⟨b, 7, none⟩ = some (.slice (some ⟨g, 0, none⟩) 3 3) :=
  ⟨h.box.cell 0, h.box.cell 1, h.box.cell 2, h.box.cell 3, h.box.cell 4, h.box.cell 5, h.box.cell 6, h.box.cell 7⟩
set_option maxRecDepth 8000 in
set_option maxHeartbeats 8000000 in
theorem cwk_ok (w : World) (hT : SpTab w) (hTab : Tab w) : Calls Tryz.prog 15 #[] w fun e w' => e = .returned (.bool true) ∧ Below w.heap.size w w' := by
  have HT := Lib.hid (show ∀ W, Below w.heap.size w W → SpTab W ∧ Tab W from fun W hW => ⟨hT.below hW, tab_below hTab hW (tab_lt hTab)⟩)
  have CE := Lib.hid (fun W => exm_ok W)
  have CD := Lib.hid (fun g W (h : CArg W (exC g) exL) => cdue_ok (exC g) exL 70 W h)
  have CN := Lib.hid (fun g W (h : CArg W (exC g) exL) => cnext_ok (exC g) exL 10 W h)
  have CF := Lib.hid (fun g W (h : CArg W (exC g) exL) => cfind_ok (exC g) exL ⟨#[98]⟩ W rfl (show (3 : Nat) ≤ 200 by decide) h.in_.at_)
  have e1 : ∀ g t, cdE (exC g).g exL t = cdE exG exL t := fun _ _ => rfl
  have e2 : ∀ g t, cdV (exC g).g exL t = cdV exG exL t := fun _ _ => rfl
  have e3 : ∀ g, cnT (exC g).g exL 10 = 70 ∧ cnB (exC g).g exL 10 = true ∧ cnL (exC g).g exL 10 = [0, 1] := fun g => by
    have h : cnS (exC g).g exL 10 = (some 70, [0, 1]) := cnS_ex
    unfold cnT cnB cnL
    rw [h]
    exact ⟨rfl, rfl, rfl⟩
  simp only [e1, e2, cdE_ex (show vT 70 = true from rfl), cdE_ex (show vT 10 = true from rfl), cdV_ex, (e3 _).1, (e3 _).2.1, (e3 _).2.2, fd_ex.1, fd_ex.2, cfV_ex] at CD CN CF CE
  clear hT hTab e1 e2 e3
  go_enter Tryz.func15, Tryz.ntmps15
  go_wp2_with fail
  refine (CE.out _).mono ?_
  rintro e w1 ⟨g, rfl, hg, hb⟩
  have ha := hb.alloc hb.size (.cells (cfV (exC g)) 29)
  have HI := Lib.hid (show WkC w w1.heap.size g (w1.alloc (.cells (cfV (exC g)) 29)) from ⟨Blk.new w1 _ _, ex_arg (hg.alloc _) (HT.out _ ha).1 (HT.out _ ha).2, ha⟩)
  rw [cfV_ex] at HI
  clear hg hb ha
  go_wp2_with fail
  refine (CD.out _ _ HI.out.arg).mono ?_
  rintro e w2 ⟨v, rfl, ho, hb⟩
  have HI := Lib.hid (WkC.next (X := w1.alloc _) HI.out hb)
  obtain ⟨a2, cap2, rfl, hi2⟩ := ho.shape
  have HD := Lib.hid hi2
  obtain ⟨c0, c1, c2, c3, c4, c5, c6, c7⟩ := HI.out.cells
  clear hb ho hi2
  go_wp2_with fail
  refine (CN.out _ _ HI.out.arg).mono ?_
  rintro e w3 ⟨v, rfl, ho, hb⟩
  have HI := Lib.hid (HI.out.next hb)
  have HD := Lib.hid (IntsAt.below HD.out hb)
  obtain ⟨a3, cap3, rfl, hi3⟩ := ho.shape
  have HE := Lib.hid hi3
  clear hb ho hi3 c0 c1 c2 c3 c4 c5 c6 c7
  obtain ⟨c0, c1, c2, c3, c4, c5, c6, c7⟩ := HI.out.cells
  go_wp2_with fail
  refine (CF.out _ _ HI.out.arg).mono ?_
  rintro e w4 ⟨rfl, hb⟩
  have HI := Lib.hid (HI.out.next hb)
  have HD := Lib.hid (IntsAt.below HD.out hb)
  have HE := Lib.hid (IntsAt.below HE.out hb)
  clear hb c0 c1 c2 c3 c4 c5 c6 c7
  have SM := Lib.hid (fun b m W (ha : IntsAt W a2 [0, 1]) (h2 : IntsAt W b [0, 1]) => ints16 a2 b [0, 1] 2 cap2 m rfl (by decide) W ha h2)
  have SN := Lib.hid (fun b m W (ha : IntsAt W a3 [0, 1]) (h2 : IntsAt W b [0, 1]) => ints16 a3 b [0, 1] 2 cap3 m rfl (by decide) W ha h2)
  go_wp2_with fail
  refine (SM.out _ _ _ (IntsAt.below HD.out ((Below.refl _ _).alloc (Nat.le_refl _) _)) (ints_two _ _ _ _)).mono ?_
  rintro e w6 ⟨rfl, hb⟩
  have HB6 := Lib.hid ((HI.out.below.alloc HI.out.below.size _).trans (hb.mono (HI.out.below.alloc HI.out.below.size _).size))
  have HE := Lib.hid ((IntsAt.below HE.out ((Below.refl _ _).alloc (Nat.le_refl _) _)).below hb)
  clear hb
  go_wp2_with fail
  refine (SN.out _ _ _ (IntsAt.below HE.out ((Below.refl _ _).alloc (Nat.le_refl _) _)) (ints_two _ _ _ _)).mono ?_
  rintro e w7 ⟨rfl, hb⟩
  have HB7 := Lib.hid ((HB6.out.alloc HB6.out.size _).trans (hb.mono (HB6.out.alloc HB6.out.size _).size))
  clear hb
  go_wp2_with fail
  go_ret
  exact ⟨rfl, HB7.out⟩
end Go.Proofs.YtihadbkjfocdoaaGreatDoor.BW
