/- PlanSkips: the law of an append inside a drawn region; the plan with further spans; spans' errors. -/
import Derived.Test.YtmkdjdfhkhmejaaGreatDoorPChecksW
namespace Go.Proofs.YtmkdjdfhkhmejaaGreatDoor.BW
open Go.RowKit BM Go.Shelf MC RK
open BK hiding ret_bool ret_i64

/-- An append to a row of the call's own, or of nothing, met in a drawn region. -/
theorem step_own {P : Program} {ops : Array Oper} {o : Oper} {a : Act} {K : Act → World → Prop} {Q : Exit → Act → World → Prop} {E : Prop} {w : World} (hgd : o.guard = none) (s x : Operand) (t : TypeId)
    (ho : o.op = .call { callee := .builtin .append, args := #[s, x], argTypes := #[t, t] })
    (base : Nat) (e : TypeId) (i : TypeInfo) (z : Value) (size bytes : Nat) (ht : P.underlying t = some (.slice e)) (hi : P.info? e = some i) (hz : i.zero = some z)
    (hsize : i.size = size) (hby : i.bytes = bytes) (hzs : z.cells.size = size) (hsz : 0 < size)
    (v : Value) (n : Nat) (xs : List Value) (hs : a.eval s = v) (hown : w.ownsRow base e size v n xs)
    (ad : Option Addr) (m c : Nat) (news : List Value) (hx : a.eval x = .slice ad m c) (hl : news.length = m * size) (hnews : ∀ p, ad = some p → ∀ j u, news[j]? = some u → w.cell? (p.add j) = some u) (h1 : ∀ u ∈ news, u.oneCell' = true)
    (h63 : n + m ≤ maxLen) (hbytes : (n + m) * bytes ≤ 140737488355328) (hbase : base ≤ w.heap.size) (hnil : ad = none → m = 0 ∧ n = 0 ∧ ∃ g, v = .slice (some g) 0 0)
    (h : ∀ v' w', w'.ownsRow base e size v' (n + m) (xs ++ news) → w.grownBy w' v.ownBlock → K (a.put o.dst v') w') :
    if Region.wanted o (yielded ops a.tmps) = true then Oper.wp P o a w K Q else E := by
  have hw : Region.wanted o (yielded ops a.tmps) = true := by simp [Region.wanted, hgd]
  rw [if_pos hw]
  cases ad with
  | some p => exact wp_append_own w s x t ho base e i z size bytes ht hi hz hsize hby hzs hsz v n xs hs hown p m c news hx hl (hnews p rfl) h1 h63 hbytes hbase fun v' w' h2 h3 _ => h v' w' h2 h3
  | none =>
    obtain ⟨rfl, rfl, g, rfl⟩ := hnil rfl
    obtain rfl : news = [] := List.eq_nil_of_length_eq_zero (by simpa using hl)
    have hr : (Builtin.append_ #[t, t] o.type #[.slice (some g) 0 0, .slice none 0 c]).run P w = .ok (.slice (some g) 0 0) w := by
      simp [Builtin.append_, run_underlying ht, sizeOf, typeInfo, hi, Builtin.lenOf, Builtin.firstCells, loadCells, loadCellsFrom, storeCells]
    unfold Oper.wp execOp
    simp only [ho, resolve, invoke, builtin, Sem.run_bind, Sem.run_pure, Result.andThen_ok, List.map_toArray, List.map_cons, List.map_nil, hs, hx, hr]
    exact h _ w (by simpa using hown) ⟨rfl, rfl, rfl, Nat.le_refl _, fun _ _ _ => rfl⟩
/-- The plan without spans, and with one more. -/
def Pl.bare (p : Pl) : Pl := ⟨p.k, p.x, p.z, p.e, none, 0, 0⟩
def Pl.more (p : Pl) (a : Option Addr) (c : Nat) : Pl := ⟨p.k, p.x, p.z, p.e, a, p.n + 1, c⟩
theorem plK_bare {p : Pl} (h : p.k ≠ 0) : plK p.bare = plK p := by
  unfold plK Pl.bare
  simp only []
  rw [if_neg h, if_neg h]
theorem plK_more {p : Pl} (a : Option Addr) (c : Nat) (h : p.k ≠ 0) : plK (p.more a c) = plK p := by
  unfold plK Pl.more
  simp only []
  rw [if_neg h, if_neg h]
theorem qK_bare (p : Pl) (t : Int) : qK p.bare t = qK p t := rfl
theorem qK_more (p : Pl) (a : Option Addr) (c : Nat) (t : Int) : qK (p.more a c) t = qK p t := rfl
theorem plE_of {p : Pl} {l : List (Int × Int)} (h1 : plK p = true) (h2 : spE l = 0) : plE p l = 0 := by unfold plE; rw [h1, h2]; rfl
theorem spL_snoc {l : List (Int × Int)} (h : spL l = 0) (s : Int × Int) : spL (l ++ [s]) = if vT s.1 && vT s.2 then (if s.2 < s.1 then 8 else 0) else 14 := by
  induction l with
  | nil => rfl
  | cons x l ih =>
    rw [List.cons_append]
    unfold spL at h ⊢
    by_cases h1 : (vT x.1 && vT x.2) = true
    · rw [if_pos h1] at h ⊢
      by_cases h2 : x.2 < x.1
      · rw [if_pos h2] at h; cases h
      · rw [if_neg h2] at h ⊢; exact ih h
    · rw [if_neg h1] at h; cases h
theorem spE_snoc {l : List (Int × Int)} (h : spE l = 0) (hn : l.length ≤ 63) (s : Int × Int) : spE (l ++ [s]) = if vT s.1 && vT s.2 then (if s.2 < s.1 then 8 else 0) else 14 := by
  have h64 : ¬ 64 < l.length := by omega
  have h65 : ¬ 64 < (l ++ [s]).length := by rw [List.length_append]; simp; omega
  unfold spE at h ⊢
  rw [if_neg h64] at h
  rw [if_neg h65, spL_snoc h]
theorem spE_snoc_ok {l : List (Int × Int)} (h : spE l = 0) (hn : l.length ≤ 63) {f u : Int} (h1 : 0 ≤ f) (h2 : f ≤ u) (h3 : u ≤ 253402300799) : spE (l ++ [(f, u)]) = 0 := by
  rw [spE_snoc h hn, if_pos (by unfold vT; simp; omega), if_neg (by simp; omega)]
theorem spE_snoc_bad {l : List (Int × Int)} (h : spE l = 0) (hn : l.length ≤ 63) {f u : Int} (hb : ¬ (0 ≤ f ∧ f ≤ u ∧ u ≤ 253402300799)) : spE (l ++ [(f, u)]) ≠ 0 := by
  rw [spE_snoc h hn]
  split
  · rename_i h1
    unfold vT at h1
    simp at h1
    rw [if_pos (by simp; omega)]; decide
  · decide
theorem any_snoc (l : List (Int × Int)) (t f u : Int) : (l ++ [(f, u)]).any (inS t) = (l.any (inS t) || (decide (f ≤ t) && decide (t ≤ u))) := by
  rw [List.any_append]; simp [inS]
theorem timesR_vT {t : Int} : timesR [t] = if vT t then 0 else 14 := by
  unfold timesR tOk vT; simp
theorem isP_one (p : Pl) (l : List (Int × Int)) (t : Int) : isP p l t = (qK p t && !l.any (inS t)) := rfl
/-- Cells of spans in a later world. -/
theorem fits_up {W X : World} {a : Option Addr} {l : List (Int × Int)} (h : SpansAt W a l) (hb : Below W.heap.size W X) : ∀ p, a = some p → ∀ j u, (cellsS l)[j]? = some u → X.cell? (p.add j) = some u := fun p hp j u hj => by
  have hjl := (List.getElem?_eq_some_iff.1 hj).1
  rw [cellsS_len] at hjl
  obtain ⟨b, off, e, _⟩ := h (j / 2) (by omega)
  have hc := cellsS_at h e j u hj
  rw [hp] at e
  injection e with e
  subst e
  rw [Addr.add_lit]
  rw [hb.cell (World.block_lt_of_cell? W _ hc)]
  exact hc
theorem blk_read2 {w : World} {b : Nat} {T : TypeId} {f u : Int} (h : Blk w b T #[.int .i64 f, .int .i64 u]) : ∀ p, some (⟨b, 0, none⟩ : Addr) = some p → ∀ (j : Nat) (v : Value), [Value.int .i64 f, .int .i64 u][j]? = some v → w.cell? (p.add j) = some v := by
  intro p hp j v hj
  injection hp with hp
  subst hp
  match j, hj with
  | 0, hj => simp at hj; subst hj; simpa [Addr.add] using h.cell 0
  | 1, hj => simp at hj; subst hj; simpa [Addr.add] using h.cell 1
end Go.Proofs.YtmkdjdfhkhmejaaGreatDoor.BW
