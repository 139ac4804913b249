/- PlanKnown: what the closed plans answer. -/
import Derived.Test.YtmdjfjdlehdhjaaGreatDoorPWk
namespace Go.Proofs.YtmdjfjdlehdhjaaGreatDoor.BW
open Go.RowKit BM Go.Shelf MC RK
open BK hiding ret_bool ret_i64

def e0V : Ev := ⟨0, 0, 0⟩
def pZ : Pl := ⟨0, zX, 0, e0V, none, 0, 0⟩
/-- The plans that PlanKnown shows to be refused. -/
def knL (a2 a8 a9 a10 : Option Addr) : List (Pl × List (Int × Int)) :=
  [(⟨0, zX, 5, e0V, none, 0, 0⟩, []), (⟨3, zX, 0, e0V, none, 0, 0⟩, []), (⟨0, zX, 0, e0V, a2, 1, 1⟩, [(0, 0)]), (⟨0, zX, 0, ⟨0, 1, 0⟩, none, 0, 0⟩, []), (⟨1, zX, 0, e0V, none, 0, 0⟩, []), (⟨2, zX, 0, e0V, none, 0, 0⟩, []),
   (⟨1, dX, 841, e0V, none, 0, 0⟩, []), (⟨1, dX, 0, ⟨1, 0, 0⟩, none, 0, 0⟩, []), (pE a8 1 1, [(2, 1)]), (pE a9 65 65, List.replicate 65 (0, 0)), (pE a10 1 1, [(-1, 1)])]
theorem plE_any (p : Pl) (l : List (Int × Int)) (a : Option Addr) (c : Nat) : plE ⟨p.k, p.x, p.z, p.e, a, p.n, c⟩ l = plE ⟨p.k, p.x, p.z, p.e, none, p.n, 0⟩ l := rfl
theorem kn_none : (knL none none none none).all (fun x => decide (plE x.1 x.2 = 16)) = true := by decide +kernel
theorem kn_bad (a2 a8 a9 a10 : Option Addr) : ∀ x ∈ knL a2 a8 a9 a10, plE x.1 x.2 = 16 := by
  have h : (knL a2 a8 a9 a10).map (fun x => plE x.1 x.2) = (knL none none none none).map (fun x => plE x.1 x.2) := rfl
  intro x hx
  have h1 : plE x.1 x.2 ∈ (knL a2 a8 a9 a10).map (fun x => plE x.1 x.2) := List.mem_map.2 ⟨x, hx, rfl⟩
  rw [h] at h1
  obtain ⟨y, hy, e⟩ := List.mem_map.1 h1
  rw [← e]
  simpa using List.all_eq_true.1 kn_none y hy
theorem kdue_bad {x : Pl × List (Int × Int)} (h : plE x.1 x.2 = 16) (t : Int) : dueE [(pD, []), x] t = 16 := by
  unfold dueE
  rw [if_neg (by simp), if_pos (by simp [h])]
theorem due_many (x : Pl × List (Int × Int)) (t : Int) : dueE (List.replicate 65 x) t = 12 := by
  unfold dueE
  rw [if_pos (by rw [List.length_replicate]; decide)]
theorem plE_pZ : plE pZ [] = 0 := by decide +kernel
theorem due_zero : dueE (List.replicate 64 (pZ, [])) (-1) = 14 := by
  unfold dueE
  rw [if_neg (by rw [List.length_replicate]; decide), if_neg (by
    intro h
    obtain ⟨x, hx, h2⟩ := List.any_eq_true.1 h
    obtain rfl := List.eq_of_mem_replicate hx
    rw [plE_pZ] at h2
    simp at h2)]
  rfl
theorem next_pE0 : nxQ (pE none 0 0) [] 0 = some 10 := by
  unfold nxQ
  rw [if_pos (by rw [fin_of (plE_pE none 0 0 rfl)]; decide), nxP_fr, isP_pE]
  refine frP_some.2 ⟨⟨by decide, by decide, by decide +kernel⟩, fun m m1 m2 => ?_⟩
  have h : ∀ k : Fin 9, (eV0.has (1 + (k.val : Int)) && !([] : List (Int × Int)).any (inS (1 + (k.val : Int)))) = false := by decide +kernel
  have h2 := h ⟨(m - 1).toNat, by omega⟩
  have e : (1 : Int) + ((m - 1).toNat : Int) = m := by omega
  simp only [e] at h2
  exact h2
theorem next_pE1 (a : Option Addr) (n c : Nat) : nxQ (pE a n c) [(60, 80)] 10 = some 130 := by
  unfold nxQ
  rw [if_pos (by rw [fin_of (plE_pE a n c spE_60)]; decide), nxP_fr, isP_pE]
  refine frP_some.2 ⟨⟨by decide, by decide, by decide +kernel⟩, fun m m1 m2 => ?_⟩
  have h : ∀ k : Fin 119, (eV0.has (11 + (k.val : Int)) && ![((60 : Int), (80 : Int))].any (inS (11 + (k.val : Int)))) = false := by decide +kernel
  have h2 := h ⟨(m - 11).toNat, by omega⟩
  have e : (11 : Int) + ((m - 11).toNat : Int) = m := by omega
  simp only [e] at h2
  exact h2
theorem size_e0 : eV0.size = 3 := by decide +kernel
theorem next_pE2 : nxQ (pE none 0 0) [] 130 = none := by
  unfold nxQ
  rw [if_pos (by rw [fin_of (plE_pE none 0 0 rfl)]; decide), nxP_fr, isP_pE]
  refine frP_none.2 fun m m1 m2 => ?_
  have h : eV0.has m = false := by
    unfold Ev.has
    rw [size_e0]
    have h3 : eV0.s = 10 ∧ eV0.p = 60 := ⟨rfl, rfl⟩
    rw [h3.1, h3.2]
    by_cases hd : (m - 10) % 60 = 0
    · rw [decide_eq_false (show ¬ (m - 10) / 60 < 3 by omega), Bool.and_false]
    · rw [decide_eq_false hd, Bool.and_false, Bool.false_and]
  rw [h, Bool.false_and]
theorem is_pE1 (a : Option Addr) (n c : Nat) : isP (pE a n c) [(60, 80)] 70 = false := by rw [isP_pE]; decide +kernel
theorem is_pE0 : isP (pE none 0 0) [] 70 = true := by rw [isP_pE]; decide +kernel
theorem fin_pE0 (t : Int) (h : vT t = true) : finE (pE none 0 0) [] [t] = 0 := by rw [fin_of (plE_pE none 0 0 rfl)]; unfold timesR; simp [show tOk t = true from h]
theorem fin_pE1 (a : Option Addr) (n c : Nat) (t : Int) (h : vT t = true) : finE (pE a n c) [(60, 80)] [t] = 0 := by rw [fin_of (plE_pE a n c spE_60)]; unfold timesR; simp [show tOk t = true from h]
theorem fin_pD_far : finE pD [] [0, 253402300800] = 14 := by rw [fin_of plE_pD]; decide
theorem fin_pD_day : finE pD [] [86400, 86400] = 0 := by rw [fin_of plE_pD]; decide
theorem list_pD : lsQ pD [] 86400 86400 2 = [86400] := by
  unfold lsQ
  rw [if_pos fin_pD_day, tmsP_cons (isP_yes (by rw [qK_pD]; exact At_dX_yes) rfl) (Int.le_refl _), tmsP_nil (fun m m1 m2 => by omega)]
  rfl
end Go.Proofs.YtmdjfjdlehdhjaaGreatDoor.BW
