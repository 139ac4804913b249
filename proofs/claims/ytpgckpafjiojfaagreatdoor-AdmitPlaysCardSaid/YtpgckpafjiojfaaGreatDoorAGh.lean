/- Contracts of a gate: made, has, call, Until, State, Trip, Reset, Give. -/
import Derived.Test.YtpgckpafjiojfaaGreatDoorAGg
namespace Go.Proofs.YtpgckpafjiojfaaGreatDoor.AD
open Go Go.RowKit
open BK (Bx BoxAt Blk only_refl only_drew only_drewN only_setCell only_trans only_of_below only_alloc below_drewN)
section
variable {w : World} {L : Ly} {x : Gt}
theorem GAt.c0 (h : GAt w L x) : w.cell? ⟨L.g, 0, none⟩ = some (.pointer (some ⟨L.cp, 0, none⟩)) := Blk.cell h.gate 0
theorem GAt.c1 (h : GAt w L x) : w.cell? ⟨L.g, 1, none⟩ = some (.int .i64 x.cap) := Blk.cell h.gate 1
theorem GAt.c2 (h : GAt w L x) : w.cell? ⟨L.g, 2, none⟩ = some (.pointer (some ⟨L.lm, 0, none⟩)) := Blk.cell h.gate 2
theorem GAt.c3 (h : GAt w L x) : w.cell? ⟨L.g, 3, none⟩ = some (.slice L.da x.js.length L.dc) := Blk.cell h.gate 3
theorem GAt.c4 (h : GAt w L x) : w.cell? ⟨L.g, 4, none⟩ = some (.slice L.ea x.js.length L.ec) := Blk.cell h.gate 4
theorem GAt.c5 (h : GAt w L x) : w.cell? ⟨L.g, 5, none⟩ = some (.int .i64 x.last) := Blk.cell h.gate 5
theorem GAt.dr (h : GAt w L x) {k : Nat} {j : Jt} (hk : x.js[k]? = some j) : ∃ b, L.da = some ⟨b, 0, none⟩ ∧ w.cell? ⟨L.g, 3, none⟩ = some (.slice (some ⟨b, 0, none⟩) x.js.length L.dc) ∧ w.cell? ⟨b, k * 2, none⟩ = some (.pointer (some ⟨L.li k, 0, none⟩)) ∧ w.cell? ⟨b, k * 2 + 1, none⟩ = some (.pointer (some ⟨L.bo k, 0, none⟩)) ∧ b < w.heap.size ∧ k < x.js.length := by
 have hl : k < x.js.length := (List.getElem?_eq_some_iff.1 hk).1
 obtain ⟨b, cs, e, h1, h2⟩ := h.door (by omega)
 refine ⟨b, e, ?_, (Blk.cell h1 _).trans (h2 k hl).1, (Blk.cell h1 _).trans (h2 k hl).2, Blk.lt h1, hl⟩
 have := h.c3
 rwa [e] at this
theorem GAt.er (h : GAt w L x) {k : Nat} {j : Jt} (hk : x.js[k]? = some j) : ∃ b, w.cell? ⟨L.g, 4, none⟩ = some (.slice (some ⟨b, 0, none⟩) x.js.length L.ec) ∧ w.cell? ⟨b, k, none⟩ = some (.int .i64 j.cap) := by
 have hl : k < x.js.length := (List.getElem?_eq_some_iff.1 hk).1
 obtain ⟨b, cs, e, h1, h2⟩ := h.each (by omega)
 refine ⟨b, ?_, (Blk.cell h1 _).trans (h2 k j hk)⟩
 have := h.c4
 rwa [e] at this
theorem Cp.put_zero (c : Cp) (k : Nat) : c.put k 0 = c := by
 obtain ⟨a, n, m, r, t⟩ := c
 unfold Cp.put
 simp only [Int.add_zero, Cp.mk.injEq, true_and, and_true]
 funext i
 by_cases hi : i = k
 ·rw [if_pos hi, hi]
 ·rw [if_neg hi]
theorem set_self {l : List Jt} {k : Nat} {j : Jt} (h : l[k]? = some j) : l.set k j = l := by
 obtain ⟨hl, hx⟩ := List.getElem?_eq_some_iff.1 h
 rw [← hx]
 simp
theorem GAt.setLast (h : Blk w L.g 118 (L.cells x)) (now : Int) (b : Lm) (js : List Jt) (hl : js.length = x.js.length) : Blk (w.setCell ⟨L.g, 5, none⟩ (.int .i64 now)) L.g 118 (L.cells ⟨x.cap, b, js, now⟩) := by
 have := Blk.set_ h 5 (.int .i64 now)
 have e : (L.cells x).setIfInBounds 5 (.int .i64 now) = L.cells ⟨x.cap, b, js, now⟩ := by unfold Ly.cells; simp [hl]
 rwa [e] at this
theorem Gt.Inv.of (h : x.Inv) {k : Nat} {j : Jt} (hk : x.js[k]? = some j) : (1 ≤ j.cap ∧ j.cap ≤ 1000) ∧ (0 ≤ j.runs ∧ j.runs ≤ j.cap) ∧ j.lm.Inv ∧ BK.Inv j.bx := h.js j (List.mem_of_getElem? hk)
theorem Gt.Inv.set (h : x.Inv) {k : Nat} {j' : Jt} (h' : (1 ≤ j'.cap ∧ j'.cap ≤ 1000) ∧ (0 ≤ j'.runs ∧ j'.runs ≤ j'.cap) ∧ j'.lm.Inv ∧ BK.Inv j'.bx) {b : Lm} (hb : b.Inv) {t : Int} (ht : 0 ≤ t ∧ t ≤ 253402300799) : (⟨x.cap, b, x.js.set k j', t⟩ : Gt).Inv :=
 ⟨h.cap, by show (x.js.set k j').length ≤ 64; rw [List.length_set]; exact h.n, hb, fun j hj => by
  have hj : j ∈ x.js.set k j' := hj
  rcases List.mem_or_eq_of_mem_set hj with h1 | rfl
  ·exact h.js j h1
  ·exact h', ht⟩
theorem gmade_ok (h : GAt w L x) : Calls Tryz.prog 65 #[.pointer (some ⟨L.g, 0, none⟩)] w fun e w' => e = .returned (.bool true) ∧ w = w' := by
 have c0 := h.c0
 clear h
 go_enter Tryz.func65, Tryz.ntmps65
 go_wp2_with fail
 go_ret
 exact ⟨rfl, rfl⟩
theorem ghas_ok (h : GAt w L x) (job now : Int) : Calls Tryz.prog 51 #[.pointer (some ⟨L.g, 0, none⟩), .int .i64 job, .int .i64 now] w fun e w' => e = .returned (.int .i64 (x.asked job now)) ∧ w = w' := by
 have M := Lib.hid (gmade_ok h)
 have c3 := h.c3
 have HV : Hid (x.asked job now = if timeB now = false then 14 else if (decide (0 ≤ job) && decide (job < x.js.length)) = false then 3 else 0) := Lib.hid rfl
 generalize x.asked job now = R at *
 generalize x.js.length = n at *
 clear h
 by_cases h0 : 0 ≤ now
 ·by_cases h1 : now ≤ 253402300799
  ·have tb : timeB now = true := timeB_iff.2 ⟨h0, h1⟩
   rw [tb] at HV
   clear tb
   by_cases h2 : 0 ≤ job
   ·by_cases h3 : job < (n : Int)
    ·have HR : Hid (R = 0) := Lib.hid (by rw [HV.out]; simp [h2, h3])
     clear HV
     go_enter Tryz.func51, Tryz.ntmps51
     go_wp2_with fail
     refine (M.out).mono ?_
     rintro e w' ⟨rfl, rfl⟩
     go_wp2_with fail
     go_ret
     exact ⟨retI (by rw [HR.out]), rfl⟩
    ·have HR : Hid (R = 3) := Lib.hid (by rw [HV.out]; simp [h3])
     clear HV
     go_enter Tryz.func51, Tryz.ntmps51
     go_wp2_with fail
     refine (M.out).mono ?_
     rintro e w' ⟨rfl, rfl⟩
     go_wp2_with fail
     go_ret
     exact ⟨retI (by rw [HR.out]), rfl⟩
   ·have HR : Hid (R = 3) := Lib.hid (by rw [HV.out]; simp [h2])
    clear HV
    go_enter Tryz.func51, Tryz.ntmps51
    go_wp2_with fail
    refine (M.out).mono ?_
    rintro e w' ⟨rfl, rfl⟩
    go_wp2_with fail
    go_ret
    exact ⟨retI (by rw [HR.out]), rfl⟩
  ·have tb : timeB now = false := by unfold timeB; rw [decide_eq_false h1, Bool.and_false]
   rw [tb] at HV
   have HR : Hid (R = 14) := Lib.hid (by rw [HV.out]; rfl)
   clear HV tb
   go_enter Tryz.func51, Tryz.ntmps51
   go_wp2_with fail
   refine (M.out).mono ?_
   rintro e w' ⟨rfl, rfl⟩
   go_wp2_with fail
   go_ret
   exact ⟨retI (by rw [HR.out]), rfl⟩
 ·have tb : timeB now = false := by unfold timeB; rw [decide_eq_false h0, Bool.false_and]
  rw [tb] at HV
  have HR : Hid (R = 14) := Lib.hid (by rw [HV.out]; rfl)
  clear HV tb
  go_enter Tryz.func51, Tryz.ntmps51
  go_wp2_with fail
  refine (M.out).mono ?_
  rintro e w' ⟨rfl, rfl⟩
  go_wp2_with fail
  go_ret
  exact ⟨retI (by rw [HR.out]), rfl⟩
theorem gcall_ok (h : GAt w L x) (job now : Int) : Calls Tryz.prog 43 #[.pointer (some ⟨L.g, 0, none⟩), .int .i64 job, .int .i64 now] w fun e w' => e = .returned (.int .i64 (x.call job now)) ∧ w = w' := by
 have M := Lib.hid (ghas_ok h job now)
 have c5 := h.c5
 have HV : Hid (x.call job now = if x.asked job now ≠ 0 then x.asked job now else if now < x.last then 8 else 0) := Lib.hid rfl
 generalize x.call job now = R at *
 generalize x.asked job now = E at *
 generalize x.last = la at *
 clear h
 by_cases hE : E = 0
 ·subst hE
  by_cases h2 : now < la
  ·have HR : Hid (R = 8) := Lib.hid (by rw [HV.out]; simp [h2])
   clear HV
   go_enter Tryz.func43, Tryz.ntmps43
   go_wp2_with fail
   refine (M.out).mono ?_
   rintro e w' ⟨rfl, rfl⟩
   go_wp2_with fail
   go_ret
   exact ⟨retI (by rw [HR.out]), rfl⟩
  ·have HR : Hid (R = 0) := Lib.hid (by rw [HV.out]; simp [h2])
   clear HV
   go_enter Tryz.func43, Tryz.ntmps43
   go_wp2_with fail
   refine (M.out).mono ?_
   rintro e w' ⟨rfl, rfl⟩
   go_wp2_with fail
   go_ret
   exact ⟨retI (by rw [HR.out]), rfl⟩
 ·have q1 : (E == 0) = false := by rw [beq_eq_false_iff_ne]; exact hE
  have q2 : (E != 0) = true := by rw [bne, q1]; rfl
  have HR : Hid (R = E) := Lib.hid (by rw [HV.out]; simp [hE])
  clear HV hE
  go_enter Tryz.func43, Tryz.ntmps43
  go_wp2_with fail
  refine (M.out).mono ?_
  rintro e w' ⟨rfl, rfl⟩
  go_wp2_with fail
  go_ret
  exact ⟨retI (by rw [HR.out]), rfl⟩
theorem guntil_ok (h : GAt w L x) (job : Int) : Calls Tryz.prog 21 #[.pointer (some ⟨L.g, 0, none⟩), .int .i64 job] w fun e w' => e = .returned (.tuple #[.int .i64 (x.until job).1, .bool (x.until job).2]) ∧ w = w' := by
 have M := Lib.hid (ghas_ok h job 0)
 by_cases hE : x.asked job 0 = 0
 ·obtain ⟨-, k, rfl, j, hk, hj⟩ := Gt.asked_zero hE
  have HR : Hid (x.until k = (BK.untilOf j.bx, j.bx.op)) := Lib.hid (by unfold Gt.until; rw [if_neg (by rw [hE]; simp), hj])
  rw [hE] at M
  obtain ⟨b, -, c3, d1, d2, -, hl⟩ := h.dr hk
  have U := Lib.hid (BK.until_ok (h.job k j hk).2)
  generalize x.until k = R at *
  generalize x.js.length = n at *
  clear hE hk hj h d1
  go_enter Tryz.func21, Tryz.ntmps21
  go_wp2_with fail
  refine (M.out).mono ?_
  rintro e w' ⟨rfl, rfl⟩
  go_wp2_with fail
  refine (U.out).mono ?_
  rintro e w' ⟨rfl, rfl⟩
  go_wp2_with fail
  go_ret2
  exact ⟨retIB (by rw [HR.out]) (by rw [HR.out]), rfl⟩
 ·have HR : Hid (x.until job = (0, false)) := Lib.hid (by unfold Gt.until; rw [if_pos hE])
  generalize x.until job = R at *
  generalize x.asked job 0 = E at *
  have q1 : (E == 0) = false := by rw [beq_eq_false_iff_ne]; exact hE
  have q2 : (E != 0) = true := by rw [bne, q1]; rfl
  clear hE h
  go_enter Tryz.func21, Tryz.ntmps21
  go_wp2_with fail
  refine (M.out).mono ?_
  rintro e w' ⟨rfl, rfl⟩
  go_wp2_with fail
  go_ret2
  exact ⟨retIB (by rw [HR.out]) (by rw [HR.out]), rfl⟩
theorem retIII {a b c d e f : Int} (h : a = b) (h' : c = d) (h'' : e = f) : Ending.returned (.tuple #[.int .i64 a, .int .i64 c, .int .i64 e]) = .returned (.tuple #[.int .i64 b, .int .i64 d, .int .i64 f]) := by rw [h, h', h'']
set_option maxHeartbeats 1000000 in
theorem gstate_ok (h : GAt w L x) (job now : Int) : Calls Tryz.prog 14 #[.pointer (some ⟨L.g, 0, none⟩), .int .i64 job, .int .i64 now] w fun e w' => e = .returned (.tuple #[.int .i64 (x.state job now).1, .int .i64 (x.state job now).2.1, .int .i64 (x.state job now).2.2]) ∧ Below w.heap.size w w' := by
 have M := Lib.hid (ghas_ok h job now)
 by_cases hE : x.asked job now = 0
 ·obtain ⟨-, k, rfl, j, hk, hj⟩ := Gt.asked_zero hE
  have HR : Hid (x.state k now = (j.runs, BK.state j.bx now, 0)) := Lib.hid (by unfold Gt.state; rw [if_neg (by rw [hE]; simp), hj])
  rw [hE] at M
  have c0 := h.c0
  have hl : k < x.js.length := (List.getElem?_eq_some_iff.1 hk).1
  have HU := cused_ok h.caps h.inv.cp (j := k) hl
  rw [Gt.cp_runs hk] at HU
  have U := Lib.hid HU
  have HD := Lib.hid (fun w1 (hb : Below w.heap.size w w1) => ((h.below hb).dr hk))
  have HB := Lib.hid (fun w1 (hb : Below w.heap.size w w1) => BK.state_ok ((h.below hb).job k j hk).2 now)
  generalize x.state k now = R at *
  generalize x.js.length = n at *
  clear hE hk hj h HU
  go_enter Tryz.func14, Tryz.ntmps14
  go_wp2_with fail
  refine (M.out).mono ?_
  rintro e w' ⟨rfl, rfl⟩
  go_wp2_with fail
  refine (U.out).mono ?_
  rintro e w1 ⟨rfl, hb⟩
  have HB1 := Lib.hid hb
  obtain ⟨b, -, c3, d1, d2, -, -⟩ := HD.out w1 hb
  have S := Lib.hid (HB.out w1 hb)
  clear hb c0 d1
  go_wp2_with fail
  refine (S.out).mono ?_
  rintro e w' ⟨rfl, rfl⟩
  go_wp2_with fail
  refine bodyPost_ret (results_tmp3 rfl _ _ _) rfl ?_
  exact ⟨retIII (by rw [HR.out]) (by rw [HR.out]) (by rw [HR.out]), HB1.out⟩
 ·have HR : Hid (x.state job now = (0, 0, x.asked job now)) := Lib.hid (by unfold Gt.state; rw [if_pos hE])
  generalize x.state job now = R at *
  generalize x.asked job now = E at *
  have q1 : (E == 0) = false := by rw [beq_eq_false_iff_ne]; exact hE
  have q2 : (E != 0) = true := by rw [bne, q1]; rfl
  clear hE h
  go_enter Tryz.func14, Tryz.ntmps14
  go_wp2_with fail
  refine (M.out).mono ?_
  rintro e w' ⟨rfl, rfl⟩
  go_wp2_with fail
  refine bodyPost_ret (results_tmp3 rfl _ _ _) rfl ?_
  exact ⟨retIII (by rw [HR.out]) (by rw [HR.out]) (by rw [HR.out]), Below.refl _ _⟩
set_option maxHeartbeats 1000000 in
theorem gtrip_ok (h : GAt w L x) (job now : Int) : Calls Tryz.prog 11 #[.pointer (some ⟨L.g, 0, none⟩), .int .i64 job, .int .i64 now] w fun e w' => e = .returned (.int .i64 (x.trip job now).1) ∧ GAt w' L (x.trip job now).2 ∧ Turn (L.own x.js.length) w w' := by
 have M := Lib.hid (gcall_ok h job now)
 have HG := Lib.hid h
 by_cases hE : x.call job now = 0
 ·obtain ⟨hA, hlast⟩ := Gt.call_zero hE
  obtain ⟨ht, k, rfl, j, hk, hj⟩ := Gt.asked_zero hA
  have HT := Lib.hid (timeB_iff.1 ht)
  have HK := Lib.hid hk
  have hi := h.inv.of hk
  have HI := Lib.hid hi
  obtain ⟨b, -, c3, d1, d2, -, hl⟩ := h.dr hk
  have B := Lib.hid (BK.trip_ok (h.job k j hk).2 hi.2.2.2 now)
  have hv : x.trip k now = if (BK.trip j.bx now).1 ≠ 0 then ((BK.trip j.bx now).1, x) else (0, ⟨x.cap, x.both, x.js.set k ⟨j.cap, j.runs, j.lm, (BK.trip j.bx now).2⟩, now⟩) := by
   unfold Gt.trip Gt.switch
   rw [if_neg (by rw [hE]; simp), hj]
   simp only [Int.toNat_natCast]
  have HV := Lib.hid hv
  rw [hE] at M
  have HN : Hid ((BK.trip j.bx now).1 ≠ 0 → (BK.trip j.bx now).2 = j.bx) := Lib.hid (by
   intro hn
   unfold BK.trip at hn ⊢
   by_cases hs : BK.switched j.bx now ≠ 0
   ·rw [if_pos hs]
   ·rw [if_neg hs] at hn
    exact absurd rfl hn)
  have HY : Hid (BK.Inv (BK.trip j.bx now).2) := Lib.hid (BK.inv_trip hi.2.2.2)
  generalize x.trip k now = R at *
  generalize BK.trip j.bx now = q at *
  obtain ⟨er, y⟩ := q
  simp only at B HV HN HY
  have GI := Lib.hid (fun (w1 : World) (hg : w.grownBy w1 (some (L.bo k))) => (show L.g ≠ L.bo k ∧ Blk w1 L.g 118 (L.cells x) from by
   have hne := blk_ne HG.out.gate (HG.out.job k j HK.out).2 (by decide)
   exact ⟨hne, Blk.grown HG.out.gate hg (by intro e; injection e with e; exact hne e)⟩))
  by_cases he : er = 0
  ·subst he
   have HR : Hid (R = (0, ⟨x.cap, x.both, x.js.set k ⟨j.cap, j.runs, j.lm, y⟩, now⟩)) := Lib.hid (by rw [HV.out]; simp)
   clear hE hA hlast ht hk hj h hi hv HV HN d1
   go_enter Tryz.func11, Tryz.ntmps11
   go_wp2_with fail
   refine (M.out).mono ?_
   rintro e w' ⟨rfl, rfl⟩
   go_wp2_with fail
   refine (B.out).mono ?_
   rintro e w1 ⟨rfl, hb, hg⟩
   have HB := Lib.hid hb
   have HGR := Lib.hid hg
   obtain ⟨hne, hg1⟩ := GI.out w1 hg
   have p5 : w1.cell? ⟨L.g, 5, none⟩ = some (.int .i64 x.last) := Blk.cell hg1 5
   have f5 : w1.frozen? ⟨L.g, 5, none⟩ = false := Blk.frozen hg1 5
   have HG1 := Lib.hid hg1
   have HNE := Lib.hid hne
   clear hb hg hg1 hne
   go_wp2_with fail
   go_ret
   rw [HR.out]
   refine ⟨rfl, ?_⟩
   have hjx := HG.out.job k j HK.out
   have tu : Turn (fun i => i = L.g ∨ i = L.cp ∨ i = L.lm ∨ i = L.li k ∨ i = L.bo k) w (w1.setCell ⟨L.g, 5, none⟩ (.int .i64 now)) := (Turn.of_only HGR.out (.inr (.inr (.inr (.inr rfl))))).trans (Turn.of_only (only_setCell (only_refl w1 (some L.g)) (.inl rfl) _) (.inl rfl))
   refine HG.out.upd HK.out tu rfl rfl (HG.out.inv.set (j' := ⟨j.cap, j.runs, j.lm, y⟩) ⟨HI.out.1, HI.out.2.1, HI.out.2.2.1, HY.out⟩ HG.out.inv.both HT.out) (GAt.setLast HG1.out now _ _ (by simp)) ?_ ?_ ?_ ?_
   ·rw [Gt.cp_put (j' := ⟨j.cap, j.runs, j.lm, y⟩) HK.out rfl]
    have e : x.cp.put k (j.runs - j.runs) = x.cp := by rw [Int.sub_self]; exact x.cp.put_zero k
    rw [e]
    exact Blk.far (Blk.grown HG.out.caps HGR.out (by intro e; injection e with e; exact blk_ne HG.out.caps hjx.2 (by decide) e)) (blk_ne HG.out.caps HG.out.gate (by decide)) _
   ·exact Blk.far (Blk.grown HG.out.lm HGR.out (by intro e; injection e with e; exact blk_ne HG.out.lm hjx.2 (by decide) e)) (blk_ne HG.out.lm HG.out.gate (by decide)) _
   ·exact Blk.far (Blk.grown hjx.1 HGR.out (by intro e; injection e with e; exact blk_ne hjx.1 hjx.2 (by decide) e)) (blk_ne hjx.1 HG.out.gate (by decide)) _
   ·exact Blk.far HB.out (fun e => HNE.out e.symm) _
  ·have HR : Hid (R = (er, x)) := Lib.hid (by rw [HV.out]; simp [he])
   have q1 : (er == 0) = false := by rw [beq_eq_false_iff_ne]; exact he
   have HY' : Hid (y = j.bx) := Lib.hid (HN.out he)
   clear hE hA hlast ht hk hj h hi hv HV HN d1 he
   go_enter Tryz.func11, Tryz.ntmps11
   go_wp2_with fail
   refine (M.out).mono ?_
   rintro e w' ⟨rfl, rfl⟩
   go_wp2_with fail
   refine (B.out).mono ?_
   rintro e w1 ⟨rfl, hb, hg⟩
   have HB := Lib.hid hb
   have HGR := Lib.hid hg
   have HG1 := Lib.hid (GI.out w1 hg).2
   clear hb hg
   go_wp2_with fail
   go_ret
   rw [HR.out]
   refine ⟨rfl, ?_⟩
   have hjx := HG.out.job k j HK.out
   have hlk : k < x.js.length := (List.getElem?_eq_some_iff.1 HK.out).1
   have tu : Turn (fun i => i = L.g ∨ i = L.cp ∨ i = L.lm ∨ i = L.li k ∨ i = L.bo k) w w1 := Turn.of_only HGR.out (.inr (.inr (.inr (.inr rfl))))
   refine HG.out.upd HK.out (j' := j) tu (by rw [set_self HK.out]) rfl HG.out.inv HG1.out ?_ ?_ ?_ ?_
   ·exact Blk.grown HG.out.caps HGR.out (by intro e; injection e with e; exact blk_ne HG.out.caps hjx.2 (by decide) e)
   ·exact Blk.grown HG.out.lm HGR.out (by intro e; injection e with e; exact blk_ne HG.out.lm hjx.2 (by decide) e)
   ·exact Blk.grown hjx.1 HGR.out (by intro e; injection e with e; exact blk_ne hjx.1 hjx.2 (by decide) e)
   ·rw [← HY'.out]
    exact HB.out
 ·have HR : Hid (x.trip job now = (x.call job now, x)) := Lib.hid (by unfold Gt.trip Gt.switch; rw [if_pos hE])
  generalize x.trip job now = R at *
  generalize x.call job now = E at *
  have q1 : (E == 0) = false := by rw [beq_eq_false_iff_ne]; exact hE
  have q2 : (E != 0) = true := by rw [bne, q1]; rfl
  clear hE h
  go_enter Tryz.func11, Tryz.ntmps11
  go_wp2_with fail
  refine (M.out).mono ?_
  rintro e w' ⟨rfl, rfl⟩
  go_wp2_with fail
  go_ret
  rw [HR.out]
  exact ⟨rfl, HG.out, Turn.refl _ _⟩
set_option maxHeartbeats 1000000 in
theorem greset_ok (h : GAt w L x) (job now : Int) : Calls Tryz.prog 12 #[.pointer (some ⟨L.g, 0, none⟩), .int .i64 job, .int .i64 now] w fun e w' => e = .returned (.int .i64 (x.reset job now).1) ∧ GAt w' L (x.reset job now).2 ∧ Turn (L.own x.js.length) w w' := by
 have M := Lib.hid (gcall_ok h job now)
 have HG := Lib.hid h
 by_cases hE : x.call job now = 0
 ·obtain ⟨hA, hlast⟩ := Gt.call_zero hE
  obtain ⟨ht, k, rfl, j, hk, hj⟩ := Gt.asked_zero hA
  have HT := Lib.hid (timeB_iff.1 ht)
  have HK := Lib.hid hk
  have hi := h.inv.of hk
  have HI := Lib.hid hi
  obtain ⟨b, -, c3, d1, d2, -, hl⟩ := h.dr hk
  have B := Lib.hid (BK.reset_ok (h.job k j hk).2 now)
  have hv : x.reset k now = if (BK.reset j.bx now).1 ≠ 0 then ((BK.reset j.bx now).1, x) else (0, ⟨x.cap, x.both, x.js.set k ⟨j.cap, j.runs, j.lm, (BK.reset j.bx now).2⟩, now⟩) := by
   unfold Gt.reset Gt.switch
   rw [if_neg (by rw [hE]; simp), hj]
   simp only [Int.toNat_natCast]
  have HV := Lib.hid hv
  rw [hE] at M
  have HN : Hid ((BK.reset j.bx now).1 ≠ 0 → (BK.reset j.bx now).2 = j.bx) := Lib.hid (by
   intro hn
   unfold BK.reset at hn ⊢
   by_cases hs : BK.switched j.bx now ≠ 0
   ·rw [if_pos hs]
   ·rw [if_neg hs] at hn
    exact absurd rfl hn)
  have HY : Hid (BK.Inv (BK.reset j.bx now).2) := Lib.hid (BK.inv_reset hi.2.2.2)
  generalize x.reset k now = R at *
  generalize BK.reset j.bx now = q at *
  obtain ⟨er, y⟩ := q
  simp only at B HV HN HY
  have GI := Lib.hid (fun (w1 : World) (hg : w.grownBy w1 (some (L.bo k))) => (show L.g ≠ L.bo k ∧ Blk w1 L.g 118 (L.cells x) from by
   have hne := blk_ne HG.out.gate (HG.out.job k j HK.out).2 (by decide)
   exact ⟨hne, Blk.grown HG.out.gate hg (by intro e; injection e with e; exact hne e)⟩))
  by_cases he : er = 0
  ·subst he
   have HR : Hid (R = (0, ⟨x.cap, x.both, x.js.set k ⟨j.cap, j.runs, j.lm, y⟩, now⟩)) := Lib.hid (by rw [HV.out]; simp)
   clear hE hA hlast ht hk hj h hi hv HV HN d1
   go_enter Tryz.func12, Tryz.ntmps12
   go_wp2_with fail
   refine (M.out).mono ?_
   rintro e w' ⟨rfl, rfl⟩
   go_wp2_with fail
   refine (B.out).mono ?_
   rintro e w1 ⟨rfl, hb, hg⟩
   have HB := Lib.hid hb
   have HGR := Lib.hid hg
   obtain ⟨hne, hg1⟩ := GI.out w1 hg
   have p5 : w1.cell? ⟨L.g, 5, none⟩ = some (.int .i64 x.last) := Blk.cell hg1 5
   have f5 : w1.frozen? ⟨L.g, 5, none⟩ = false := Blk.frozen hg1 5
   have HG1 := Lib.hid hg1
   have HNE := Lib.hid hne
   clear hb hg hg1 hne
   go_wp2_with fail
   go_ret
   rw [HR.out]
   refine ⟨rfl, ?_⟩
   have hjx := HG.out.job k j HK.out
   have tu : Turn (fun i => i = L.g ∨ i = L.cp ∨ i = L.lm ∨ i = L.li k ∨ i = L.bo k) w (w1.setCell ⟨L.g, 5, none⟩ (.int .i64 now)) := (Turn.of_only HGR.out (.inr (.inr (.inr (.inr rfl))))).trans (Turn.of_only (only_setCell (only_refl w1 (some L.g)) (.inl rfl) _) (.inl rfl))
   refine HG.out.upd HK.out tu rfl rfl (HG.out.inv.set (j' := ⟨j.cap, j.runs, j.lm, y⟩) ⟨HI.out.1, HI.out.2.1, HI.out.2.2.1, HY.out⟩ HG.out.inv.both HT.out) (GAt.setLast HG1.out now _ _ (by simp)) ?_ ?_ ?_ ?_
   ·rw [Gt.cp_put (j' := ⟨j.cap, j.runs, j.lm, y⟩) HK.out rfl]
    have e : x.cp.put k (j.runs - j.runs) = x.cp := by rw [Int.sub_self]; exact x.cp.put_zero k
    rw [e]
    exact Blk.far (Blk.grown HG.out.caps HGR.out (by intro e; injection e with e; exact blk_ne HG.out.caps hjx.2 (by decide) e)) (blk_ne HG.out.caps HG.out.gate (by decide)) _
   ·exact Blk.far (Blk.grown HG.out.lm HGR.out (by intro e; injection e with e; exact blk_ne HG.out.lm hjx.2 (by decide) e)) (blk_ne HG.out.lm HG.out.gate (by decide)) _
   ·exact Blk.far (Blk.grown hjx.1 HGR.out (by intro e; injection e with e; exact blk_ne hjx.1 hjx.2 (by decide) e)) (blk_ne hjx.1 HG.out.gate (by decide)) _
   ·exact Blk.far HB.out (fun e => HNE.out e.symm) _
  ·have HR : Hid (R = (er, x)) := Lib.hid (by rw [HV.out]; simp [he])
   have q1 : (er == 0) = false := by rw [beq_eq_false_iff_ne]; exact he
   have HY' : Hid (y = j.bx) := Lib.hid (HN.out he)
   clear hE hA hlast ht hk hj h hi hv HV HN d1 he
   go_enter Tryz.func12, Tryz.ntmps12
   go_wp2_with fail
   refine (M.out).mono ?_
   rintro e w' ⟨rfl, rfl⟩
   go_wp2_with fail
   refine (B.out).mono ?_
   rintro e w1 ⟨rfl, hb, hg⟩
   have HB := Lib.hid hb
   have HGR := Lib.hid hg
   have HG1 := Lib.hid (GI.out w1 hg).2
   clear hb hg
   go_wp2_with fail
   go_ret
   rw [HR.out]
   refine ⟨rfl, ?_⟩
   have hjx := HG.out.job k j HK.out
   have hlk : k < x.js.length := (List.getElem?_eq_some_iff.1 HK.out).1
   have tu : Turn (fun i => i = L.g ∨ i = L.cp ∨ i = L.lm ∨ i = L.li k ∨ i = L.bo k) w w1 := Turn.of_only HGR.out (.inr (.inr (.inr (.inr rfl))))
   refine HG.out.upd HK.out (j' := j) tu (by rw [set_self HK.out]) rfl HG.out.inv HG1.out ?_ ?_ ?_ ?_
   ·exact Blk.grown HG.out.caps HGR.out (by intro e; injection e with e; exact blk_ne HG.out.caps hjx.2 (by decide) e)
   ·exact Blk.grown HG.out.lm HGR.out (by intro e; injection e with e; exact blk_ne HG.out.lm hjx.2 (by decide) e)
   ·exact Blk.grown hjx.1 HGR.out (by intro e; injection e with e; exact blk_ne hjx.1 hjx.2 (by decide) e)
   ·rw [← HY'.out]
    exact HB.out
 ·have HR : Hid (x.reset job now = (x.call job now, x)) := Lib.hid (by unfold Gt.reset Gt.switch; rw [if_pos hE])
  generalize x.reset job now = R at *
  generalize x.call job now = E at *
  have q1 : (E == 0) = false := by rw [beq_eq_false_iff_ne]; exact hE
  have q2 : (E != 0) = true := by rw [bne, q1]; rfl
  clear hE h
  go_enter Tryz.func12, Tryz.ntmps12
  go_wp2_with fail
  refine (M.out).mono ?_
  rintro e w' ⟨rfl, rfl⟩
  go_wp2_with fail
  go_ret
  rw [HR.out]
  exact ⟨rfl, HG.out, Turn.refl _ _⟩
end
end Go.Proofs.YtpgckpafjiojfaaGreatDoor.AD
