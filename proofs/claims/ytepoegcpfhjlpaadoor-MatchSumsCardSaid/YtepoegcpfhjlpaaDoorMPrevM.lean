/- Contract of match.Prev. -/
import Derived.Test.YtepoegcpfhjlpaaDoorRPrev
import Derived.Test.YtepoegcpfhjlpaaDoorMatR
namespace Go.Proofs.YtepoegcpfhjlpaaDoor.BW
open Go.RowKit BM Go.Shelf MC RK
open BK hiding ret_bool ret_i64

attribute [local go_sem] Oper.semAt_some

theorem in_prefix {L pre : List Nat} {p : Nat → Bool} {d e : Nat} (hL : L.Pairwise (fun a b => b < a)) (h : (pre ++ [d]) <+: L.filter p) (he : e ∈ L) (hp : p e = true) (hgt : d < e) : e ∈ pre := by
  obtain ⟨suf, hs⟩ := h
  have h1 : e ∈ pre ++ [d] ++ suf := by rw [hs]; exact List.mem_filter.2 ⟨he, hp⟩
  have h2 : (pre ++ [d] ++ suf).Pairwise (fun a b => b < a) := by rw [hs]; exact hL.filter _
  rcases List.mem_append.1 h1 with h3 | h3
  · rcases List.mem_append.1 h3 with h4 | h4
    · exact h4
    · rw [List.mem_singleton] at h4; omega
  · have := (List.pairwise_append.1 h2).2.2 d (by simp) e h3
    omega
theorem back_desc (b n : Nat) (h : n ≤ b + 1) : ((List.range n).map fun j => b - j).Pairwise (fun a c => c < a) := by
  rw [List.pairwise_map]
  refine List.Pairwise.imp_of_mem ?_ List.pairwise_lt_range
  intro i j hi hj hij
  have := List.mem_range.1 hi
  have := List.mem_range.1 hj
  omega
theorem back_mem {b n e : Nat} (h1 : e ≤ b) (h2 : b < e + n) : e ∈ (List.range n).map fun j => b - j := List.mem_map.2 ⟨b - e, List.mem_range.2 (by omega), by omega⟩
/-- What lies behind the day that comes next is clear. -/
theorem back_clear {x : Ex} {hi be d : Nat} {pre : List Nat} (hbe : be ≤ hi) (h : (pre ++ [d]) <+: daysL x (fun j => hi / 86400 - j) (hi / 86400 - be / 86400 + 1)) (hno : ∀ e ∈ pre, lst x (min 86399 (hi - e * 86400)) = none) : d ≤ hi / 86400 ∧ be / 86400 ≤ d ∧ MC.M x d = true ∧ ClJ x hi (d + 1) := by
  have hdiv := Nat.div_le_div_right (c := 86400) hbe
  have hd : d ∈ daysL x (fun j => hi / 86400 - j) (hi / 86400 - be / 86400 + 1) := h.subset (by simp)
  unfold daysL at hd h
  obtain ⟨h1, h2⟩ := List.mem_filter.1 hd
  obtain ⟨j, hj, rfl⟩ := List.mem_map.1 h1
  have hj' := List.mem_range.1 hj
  refine ⟨by omega, by omega, h2, fun l l1 l2 => ?_⟩
  cases hm : MC.M x (l / 86400) with
  | false => unfold T; rw [hm]; rfl
  | true =>
    have := in_prefix (back_desc _ _ (by omega)) h (e := l / 86400) (back_mem (by omega) (by omega)) hm (by omega)
    have hl := lst_none.1 (hno _ this) (l % 86400) (by omega) (by omega)
    unfold T
    rw [hl, Bool.and_false]
theorem back_none {x : Ex} {hi be : Nat} (hbe : be ≤ hi) (hno : ∀ e ∈ daysL x (fun j => hi / 86400 - j) (hi / 86400 - be / 86400 + 1), lst x (min 86399 (hi - e * 86400)) = none) (l : Nat) (l1 : be ≤ l) (l2 : l ≤ hi) : T x l = false := by
  have hdiv := Nat.div_le_div_right (c := 86400) hbe
  cases hm : MC.M x (l / 86400) with
  | false => unfold T; rw [hm]; rfl
  | true =>
    have hl := lst_none.1 (hno (l / 86400) (by unfold daysL; exact List.mem_filter.2 ⟨back_mem (by omega) (by omega), hm⟩)) (l % 86400) (by omega) (by omega)
    unfold T
    rw [hl, Bool.and_false]

structure PvI (x : Ex) (w : World) (z be hi : Int) (q : Nat) (v : Int) (b : Bool) (W : World) : Prop where
  nx : NxI w v b W
  xb : Blk W w.heap.size 24 (exV x)
  sh : Blk W q 2 #[.int .i64 z]
  be : Blk W (q + 1) 2 #[.int .i64 be]
  hi : Blk W (q + 2) 2 #[.int .i64 hi]
theorem PvI.steps {x : Ex} {w : World} {z be hi v : Int} {b : Bool} {q C : Nat} {X Y : World} (h : PvI x w z be hi q v b X) (hs : RK.Steps (fun _ => False) C X Y) (hC : w.heap.size ≤ C) : PvI x w z be hi q v b Y :=
  ⟨h.nx.steps hs hC, steps_blk hs h.xb (fun h => h), steps_blk hs h.sh (fun h => h), steps_blk hs h.be (fun h => h), steps_blk hs h.hi (fun h => h)⟩
theorem PvI.next {x : Ex} {w : World} {z be hi v : Int} {b : Bool} {q : Nat} {X Y : World} (h : PvI x w z be hi q v b X) (hb : Below X.heap.size X Y) : PvI x w z be hi q v b Y :=
  ⟨⟨h.nx.r0.below hb h.nx.r0.lt, h.nx.r1.below hb h.nx.r1.lt, h.nx.r2.below hb h.nx.r2.lt, h.nx.below.trans (hb.mono h.nx.below.size)⟩, h.xb.below hb h.xb.lt, h.sh.below hb h.sh.lt, h.be.below hb h.be.lt, h.hi.below hb h.hi.lt⟩
theorem PvI.set {x : Ex} {w : World} {z be hi v : Int} {b : Bool} {q : Nat} {W : World} (h : PvI x w z be hi q v b W) (hq : w.heap.size + 3 < q) (u : Int) (c : Bool) : PvI x w z be hi q u c (((W.setCell ⟨w.heap.size + 1, 0, none⟩ (.int .i64 u)).setCell ⟨w.heap.size + 2, 0, none⟩ (.bool c)).setCell ⟨w.heap.size + 3, 0, none⟩ (.int .i64 0)) :=
  ⟨h.nx.set u c, ((h.xb.far (by simp) _).far (by simp) _).far (by simp) _, ((h.sh.far (by simp; omega) _).far (by simp; omega) _).far (by simp; omega) _, ((h.be.far (by simp; omega) _).far (by simp; omega) _).far (by simp; omega) _, ((h.hi.far (by simp; omega) _).far (by simp; omega) _).far (by simp; omega) _⟩
end Go.Proofs.YtepoegcpfhjlpaaDoor.BW
