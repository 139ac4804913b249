/- A cheaper check that a region's operations may be walked in the order of the text. -/
import Derived.Still
import Derived.Deep.Quiet
import Derived.KernelRfl
namespace Go.Proofs.YtcgnnmpgdnajnaaDoor.RK
open Go

def maskOf : List Nat → Nat
  | [] => 0
  | t :: l => maskOf l ||| 1 <<< t
theorem maskOf_bit (l : List Nat) (d : Nat) : (maskOf l).testBit d = l.contains d := by
  induction l with
  | nil => simp [maskOf]
  | cons t l ih =>
    simp only [maskOf, Nat.testBit_or, ih, List.contains_cons, Nat.one_shiftLeft, Nat.testBit_two_pow]
    rw [Bool.or_comm]
    congr 1
    rw [Bool.eq_iff_iff]
    simp
    exact eq_comm
/-- What the check looks at of one operation: its slot, the slots that it reads, the operations that it waits for. -/
def rowOf (ops : Array Oper) (o : Oper) : Option Nat × Nat × Nat := (o.dst, maskOf (o.looksAt ops), maskOf ((o.after.toList.filter (Region.binds .any)).map (·.on)))
def apartT (x y : Option Nat × Nat × Nat) : Bool :=
  (match x.1 with
   | some d => !y.2.1.testBit d && y.1 != some d
   | none => true) &&
  (match y.1 with
   | some d => !x.2.1.testBit d
   | none => true)
def goT : Nat → List (Option Nat × Nat × Nat) → Bool
  | _, [] => true
  | k, x :: xs => decide (x.2.2 < 2 ^ k) && (xs.all fun y => y.2.2.testBit k || apartT x y) && goT (k + 1) xs

theorem apart_of {ops : Array Oper} {x y : Oper} (h : apartT (rowOf ops x) (rowOf ops y) = true) : x.apart ops y = true := by
  unfold apartT rowOf at h
  unfold Oper.apart
  simp only [maskOf_bit] at h
  exact h
theorem lexFrom_of (ops : Array Oper) : ∀ (n k : Nat) (listed : Array Bool), k + n = ops.size → listed.size = ops.size → (∀ i (h : i < listed.size), listed[i] = decide (i < k)) →
    goT k ((ops.toList.drop k).map (rowOf ops)) = true → Region.lexFrom .any ops n k listed = true
  | 0, k, listed, hk, hs, hl, _ => by
    simp only [Region.lexFrom, List.isEmpty_iff]
    rw [List.eq_nil_iff_forall_not_mem]
    intro i hi
    obtain ⟨h1, o, ho, _⟩ := mem_ready.1 hi
    have hlt := (Array.getElem?_eq_some_iff.1 ho).1
    have hlt' : i < listed.size := by omega
    simp only [Array.getD, hlt', dif_pos] at h1
    have := hl i hlt'
    rw [show listed.getInternal i hlt' = listed[i] from rfl, this] at h1
    simp at h1; omega
  | n + 1, k, listed, hk, hs, hl, hg => by
    have hklt : k < ops.size := by omega
    have hdrop : ops.toList.drop k = ops[k] :: ops.toList.drop (k + 1) := by
      rw [List.drop_eq_getElem_cons (by simpa using hklt)]; simp
    rw [hdrop, List.map_cons] at hg
    simp only [goT, Bool.and_eq_true, decide_eq_true_eq] at hg
    obtain ⟨⟨g1, g2⟩, g3⟩ := hg
    have getL : ∀ i, i < ops.size → ∀ b, listed.getD i b = decide (i < k) := by
      intro i hi b
      have hlt' : i < listed.size := by omega
      simp only [Array.getD, hlt', dif_pos]
      exact hl i hlt'
    simp only [Region.lexFrom, Bool.and_eq_true]
    refine ⟨⟨?_, ?_⟩, ?_⟩
    · rw [List.contains_iff_mem]
      refine mem_ready.2 ⟨by rw [getL k hklt]; simp, ops[k], Array.getElem?_eq_getElem hklt, fun e he hb => ?_⟩
      have hon : (maskOf ((ops[k].after.toList.filter (Region.binds .any)).map (·.on))).testBit e.on = true := by
        rw [maskOf_bit, List.contains_iff_mem, List.mem_map]
        exact ⟨e, List.mem_filter.2 ⟨by simpa using he, hb⟩, rfl⟩
      have hlt : e.on < k := by
        apply Nat.lt_of_not_le; intro hle
        have := Nat.testBit_lt_two_pow (Nat.lt_of_lt_of_le g1 (Nat.pow_le_pow_right (by decide) hle))
        unfold rowOf at this
        simp only at this
        rw [this] at hon; cases hon
      rw [getL _ (by omega)]; simpa using hlt
    · unfold Region.free
      rw [Array.getElem?_eq_getElem hklt]
      simp only [List.all_eq_true, List.mem_range]
      intro j hj
      rw [getL j hj]
      rcases Nat.lt_trichotomy j k with h | h | h
      · simp [h]
      · simp [h]
      · have hmem : rowOf ops ops[j] ∈ (ops.toList.drop (k + 1)).map (rowOf ops) := by
          refine List.mem_map.2 ⟨ops[j], ?_, rfl⟩
          rw [List.mem_iff_getElem]
          exact ⟨j - (k + 1), by simp; omega, by simp [show k + 1 + (j - (k + 1)) = j from by omega]⟩
        have h2 := List.all_eq_true.1 g2 _ hmem
        rw [Array.getElem?_eq_getElem hj]
        simp only [Bool.or_eq_true] at h2 ⊢
        right
        rcases h2 with h2 | h2
        · left
          unfold rowOf at h2
          simp only [maskOf_bit] at h2
          rw [List.contains_iff_mem, List.mem_map] at h2
          obtain ⟨e, he, heq⟩ := h2
          rw [List.mem_filter] at he
          rw [Array.any_eq_true']
          exact ⟨e, by simpa using he.1, by simp [he.2, heq]⟩
        · right; exact apart_of h2
    · refine lexFrom_of ops n (k + 1) _ (by omega) (by simpa using hs) (fun i h => ?_) g3
      have h' : i < listed.size := by simpa using h
      rw [Array.getElem_setIfInBounds h']
      split
      · rename_i e; subst e; simp
      · rename_i e
        rw [hl i h']
        rw [Bool.eq_iff_iff]; simp; omega
theorem lexB_of (l : List Oper) (h1 : Region.noSelect l.toArray = true) (h2 : goT 0 (l.map (rowOf l.toArray)) = true) : Region.lexB .any l.toArray = true := by
  unfold Region.lexB
  rw [h1, Bool.true_and]
  refine lexFrom_of l.toArray _ 0 _ (by simp) (by simp) (fun i h => by simp) ?_
  simpa using h2
end Go.Proofs.YtcgnnmpgdnajnaaDoor.RK
