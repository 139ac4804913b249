/- PlanKnown's region 9: what holds of each operation that has come up. -/
import Derived.Test.YtmdjfjdlehdhjaaGreatDoorPKnM
import Derived.Test.YtmdjfjdlehdhjaaGreatDoorPRegI
namespace Go.Proofs.YtmdjfjdlehdhjaaGreatDoor.BW
open Go.RowKit BM Go.Shelf MC RK
open BK hiding ret_bool ret_i64

def SlB (B : Nat) (v : Value) (n : Nat) (cs : Array Value) (w : World) : Prop := ∃ g, v = .slice (some ⟨g, 0, none⟩) n n ∧ B ≤ g ∧ Blk w g 32 cs
theorem SlB.next {B n : Nat} {v : Value} {cs : Array Value} {w w' : World} (h : SlB B v n cs w) (hb : Below w.heap.size w w') : SlB B v n cs w' := h.imp fun _ h => ⟨h.1, h.2.1, h.2.2.below hb h.2.2.lt⟩
def FinK (B : Nat) (v : Value) (w : World) : Prop := ∃ u2 u8 u9 u10 E, (SlB B u2 1 #[.int .i64 0, .int .i64 0] w ∧ SlB B u8 1 #[.int .i64 2, .int .i64 1] w ∧ SlB B u9 65 (Array.replicate 130 (.int .i64 0)) w ∧ SlB B u10 1 #[.int .i64 (-1), .int .i64 1] w) ∧ v = .slice (some ⟨E, 0, none⟩) 11 11 ∧ B ≤ E ∧ Blk w E 29 #[.int .i64 0, .int .u64 0, .int .u64 0, .int .u64 0, .int .u64 0, .int .u64 0, .int .u64 0, .bool false, .bool false, .int .i64 5, .int .i64 0, .int .i64 0, .int .i64 0, .slice none 0 0, .int .i64 3, .int .u64 0, .int .u64 0, .int .u64 0, .int .u64 0, .int .u64 0, .int .u64 0, .bool false, .bool false, .int .i64 0, .int .i64 0, .int .i64 0, .int .i64 0, .slice none 0 0, .int .i64 0, .int .u64 0, .int .u64 0, .int .u64 0, .int .u64 0, .int .u64 0, .int .u64 0, .bool false, .bool false, .int .i64 0, .int .i64 0, .int .i64 0, .int .i64 0, u2, .int .i64 0, .int .u64 0, .int .u64 0, .int .u64 0, .int .u64 0, .int .u64 0, .int .u64 0, .bool false, .bool false, .int .i64 0, .int .i64 0, .int .i64 1, .int .i64 0, .slice none 0 0, .int .i64 1, .int .u64 0, .int .u64 0, .int .u64 0, .int .u64 0, .int .u64 0, .int .u64 0, .bool false, .bool false, .int .i64 0, .int .i64 0, .int .i64 0, .int .i64 0, .slice none 0 0, .int .i64 2, .int .u64 0, .int .u64 0, .int .u64 0, .int .u64 0, .int .u64 0, .int .u64 0, .bool false, .bool false, .int .i64 0, .int .i64 0, .int .i64 0, .int .i64 0, .slice none 0 0, .int .i64 1, .int .u64 1, .int .u64 1, .int .u64 1, .int .u64 4294967294, .int .u64 8190, .int .u64 127, .bool true, .bool true, .int .i64 0, .int .i64 0, .int .i64 0, .int .i64 0, .slice none 0 0, .int .i64 1, .int .u64 1, .int .u64 1, .int .u64 1, .int .u64 4294967294, .int .u64 8190, .int .u64 127, .bool true, .bool true, .int .i64 0, .int .i64 0, .int .i64 0, .int .i64 0, .slice none 0 0, .int .i64 2, .int .u64 0, .int .u64 0, .int .u64 0, .int .u64 0, .int .u64 0, .int .u64 0, .bool false, .bool false, .int .i64 0, .int .i64 10, .int .i64 60, .int .i64 3, u8, .int .i64 2, .int .u64 0, .int .u64 0, .int .u64 0, .int .u64 0, .int .u64 0, .int .u64 0, .bool false, .bool false, .int .i64 0, .int .i64 10, .int .i64 60, .int .i64 3, u9, .int .i64 2, .int .u64 0, .int .u64 0, .int .u64 0, .int .u64 0, .int .u64 0, .int .u64 0, .bool false, .bool false, .int .i64 0, .int .i64 10, .int .i64 60, .int .i64 3, u10]
theorem FinK.next {B : Nat} {v : Value} {w w' : World} (h : FinK B v w) (hb : Below w.heap.size w w') : FinK B v w' := by
  obtain ⟨u2, u8, u9, u10, E, ⟨h1, h2, h3, h4⟩, h5, h6, h7⟩ := h
  exact ⟨u2, u8, u9, u10, E, ⟨h1.next hb, h2.next hb, h3.next hb, h4.next hb⟩, h5, h6, h7.below hb h7.lt⟩
def PP (B : Nat) (i : Nat) (v : Value) (w : World) : Prop := match i with
  | 0 => v = .agg #[.int .i64 0, .int .u64 0, .int .u64 0, .int .u64 0, .int .u64 0, .int .u64 0, .int .u64 0, .bool false, .bool false, .int .i64 5, .int .i64 0, .int .i64 0, .int .i64 0, .slice none 0 0]
  | 1 => v = .agg #[.int .i64 3, .int .u64 0, .int .u64 0, .int .u64 0, .int .u64 0, .int .u64 0, .int .u64 0, .bool false, .bool false, .int .i64 0, .int .i64 0, .int .i64 0, .int .i64 0, .slice none 0 0]
  | 2 => v = .agg #[.int .i64 0, .int .i64 0]
  | 3 => SlB B v 1 #[.int .i64 0, .int .i64 0] w
  | 4 => ∃ u, SlB B u 1 #[.int .i64 0, .int .i64 0] w ∧ v = .agg #[.int .i64 0, .int .u64 0, .int .u64 0, .int .u64 0, .int .u64 0, .int .u64 0, .int .u64 0, .bool false, .bool false, .int .i64 0, .int .i64 0, .int .i64 0, .int .i64 0, u]
  | 5 => v = .agg #[.int .i64 0, .int .i64 1, .int .i64 0]
  | 6 => v = .agg #[.int .i64 0, .int .u64 0, .int .u64 0, .int .u64 0, .int .u64 0, .int .u64 0, .int .u64 0, .bool false, .bool false, .int .i64 0, .int .i64 0, .int .i64 1, .int .i64 0, .slice none 0 0]
  | 7 => v = .agg #[.int .i64 1, .int .u64 0, .int .u64 0, .int .u64 0, .int .u64 0, .int .u64 0, .int .u64 0, .bool false, .bool false, .int .i64 0, .int .i64 0, .int .i64 0, .int .i64 0, .slice none 0 0]
  | 8 => v = .agg #[.int .i64 2, .int .u64 0, .int .u64 0, .int .u64 0, .int .u64 0, .int .u64 0, .int .u64 0, .bool false, .bool false, .int .i64 0, .int .i64 0, .int .i64 0, .int .i64 0, .slice none 0 0]
  | 9 => v = .agg #[.int .i64 1, .int .u64 1, .int .u64 1, .int .u64 1, .int .u64 4294967294, .int .u64 8190, .int .u64 127, .bool true, .bool true, .int .i64 0, .int .i64 0, .int .i64 0, .int .i64 0, .slice none 0 0]
  | 10 => v = .agg #[.int .i64 1, .int .u64 1, .int .u64 1, .int .u64 1, .int .u64 4294967294, .int .u64 8190, .int .u64 127, .bool true, .bool true, .int .i64 0, .int .i64 0, .int .i64 0, .int .i64 0, .slice none 0 0]
  | 11 => v = .agg #[.int .i64 2, .int .i64 1]
  | 12 => SlB B v 1 #[.int .i64 2, .int .i64 1] w
  | 13 => ∃ u, SlB B u 1 #[.int .i64 2, .int .i64 1] w ∧ v = .agg #[.int .i64 2, .int .u64 0, .int .u64 0, .int .u64 0, .int .u64 0, .int .u64 0, .int .u64 0, .bool false, .bool false, .int .i64 0, .int .i64 10, .int .i64 60, .int .i64 3, u]
  | 14 => SlB B v 65 (Array.replicate 130 (.int .i64 0)) w
  | 15 => ∃ u, SlB B u 65 (Array.replicate 130 (.int .i64 0)) w ∧ v = .agg #[.int .i64 2, .int .u64 0, .int .u64 0, .int .u64 0, .int .u64 0, .int .u64 0, .int .u64 0, .bool false, .bool false, .int .i64 0, .int .i64 10, .int .i64 60, .int .i64 3, u]
  | 16 => v = .agg #[.int .i64 (-1), .int .i64 1]
  | 17 => SlB B v 1 #[.int .i64 (-1), .int .i64 1] w
  | 18 => ∃ u, SlB B u 1 #[.int .i64 (-1), .int .i64 1] w ∧ v = .agg #[.int .i64 2, .int .u64 0, .int .u64 0, .int .u64 0, .int .u64 0, .int .u64 0, .int .u64 0, .bool false, .bool false, .int .i64 0, .int .i64 10, .int .i64 60, .int .i64 3, u]
  | 19 => FinK B v w
  | 20 => FinK B v w
  | _ => True
theorem PP.next {B i : Nat} {v : Value} {w w' : World} (h : PP B i v w) (hb : Below w.heap.size w w') : PP B i v w' := by
  unfold PP at h ⊢
  split at h <;> first | exact h | exact SlB.next h hb | exact FinK.next h hb | exact h.imp fun _ h => ⟨h.1.next hb, h.2⟩
structure InvK (B : Nat) (W : World) (listed : Array Bool) (v : Nat → Value) (w : World) : Prop where
  all : ∀ i, listed[i]? = some true → PP B i (v i) w
  below : Below W.heap.size W w
def updV (v : Nat → Value) (i : Nat) (u : Value) : Nat → Value := fun j => if j = i then u else v j
theorem InvK.step {B : Nat} {W : World} {listed : Array Bool} {v : Nat → Value} {w w' : World} (h : InvK B W listed v w) {i : Nat} {u : Value} (hb : Below w.heap.size w w') (hp : PP B i u w') : InvK B W (listed.setIfInBounds i true) (updV v i u) w' := by
  refine ⟨fun j hj => ?_, h.below.trans (hb.mono h.below.size)⟩
  unfold updV
  by_cases e : j = i
  · subst e; rw [if_pos rfl]; exact hp
  · rw [if_neg e]
    rw [Array.getElem?_setIfInBounds_ne (fun e' => e e'.symm)] at hj
    exact (h.all j hj).next hb
theorem InvK.dep {B : Nat} {W : World} {listed : Array Bool} {v : Nat → Value} {w : World} (h : InvK B W listed v w) {o : Oper} (ha : ∀ e ∈ o.after, Region.binds .any e = true → listed.getD e.on false = true) (j : Nat) (hj : (o.after.any fun e => Region.binds .any e && e.on == j) = true) : PP B j (v j) w := by
  obtain ⟨e, he, h2⟩ := Array.any_eq_true'.1 hj
  rw [Bool.and_eq_true, beq_iff_eq] at h2
  have h3 := ha e he h2.1
  rw [h2.2] at h3
  apply h.all
  rw [Array.getD_eq_getD_getElem?] at h3
  cases hv : listed[j]? with
  | none => rw [hv] at h3; cases h3
  | some b => rw [hv] at h3; simpa using h3
theorem made65 : madeCells (Value.agg #[.int .i64 0, .int .i64 0]).cells ((65 : Int).toNat * 2) = Array.replicate 130 (.int .i64 0) := by kernel_rfl
theorem mk65 (w : World) : (Instr.makeSlice 27 (.int .i64 65) (.int .i64 65)).run Tryz.prog w = .ok (.slice (some ⟨w.heap.size, 0, none⟩) 65 65) (w.alloc (.cells (Array.replicate 130 (.int .i64 0)) 32)) := by
  obtain ⟨i0, hi0, hz0, hz1, hz2⟩ := info_parts info_sp
  have h := run_makeSlice (P := Tryz.prog) w 27 32 i0 (.agg #[.int .i64 0, .int .i64 0]) Tryz.underlying27 hi0 hz0 .i64 .i64 65 65 (by decide) (by decide) (by rw [hz1]; decide) (by rw [hz2]; decide) (by decide)
  rw [hz1, made65] at h
  exact h
theorem all_listedB {l : List Oper} {listed : Array Bool} (hs : listed.size = l.length) (hb : ((List.range l.length).all fun i => match l[i]? with | some o => o.after.all (fun e => decide (e.on < i)) | none => true) = true) (h : Region.ready .any l.toArray listed = []) (i : Nat) (hi : i < l.length) : listed[i]? = some true := by
  refine all_listed (md := .any) (ops := l.toArray) (by simpa using hs) (fun j o ho e he => ?_) h i (by simpa using hi)
  have hj : l[j]? = some o := by simpa using ho
  have h1 := List.all_eq_true.1 hb j (List.mem_range.2 (List.getElem?_eq_some_iff.1 hj).1)
  rw [hj] at h1
  simpa using (Array.all_eq_true'.1 h1) e he
end Go.Proofs.YtmdjfjdlehdhjaaGreatDoor.BW
