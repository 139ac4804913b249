/- The contract of the reference's Runs: the walk. -/
import Derived.Test.YtcgnnmpgdnajnaaDoorBitsLRunsM
import Derived.Test.YtcgnnmpgdnajnaaDoorBitsPartsW
import Derived.Test.YtcgnnmpgdnajnaaDoorAppendStep
namespace Go.Proofs.YtcgnnmpgdnajnaaDoor.BW
open Go.RowKit BM

/-- The numbers ys lie at ad, the first of them at its head; all in blocks below B. -/
def ListAt (B : Nat) (w : World) (ad : Option Addr) (ys : List Nat) : Prop := ∀ i, i < ys.length → ∃ b off, ad = some ⟨b, off, none⟩ ∧ b < B ∧ w.cell? ⟨b, off + i, none⟩ = some (.int .i64 ((ys.getD i 0 : Nat) : Int))
theorem ListAt.below {B C : Nat} {w w' : World} {ad : Option Addr} {ys : List Nat} (h : ListAt B w ad ys) (hb : Below C w w') (hC : B ≤ C) : ListAt B w' ad ys := by
  intro i hi
  obtain ⟨b, off, e, hB, hc⟩ := h i hi
  exact ⟨b, off, e, hB, by rw [hb.cell (p := ⟨b, off + i, none⟩) (Nat.lt_of_lt_of_le hB hC)]; exact hc⟩
theorem ListAt.at {B : Nat} {w : World} {b off : Nat} {ys : List Nat} (h : ListAt B w (some ⟨b, off, none⟩) ys) {i : Nat} (hi : i < ys.length) : w.cell? ⟨b, off + i, none⟩ = some (.int .i64 ((ys.getD i 0 : Nat) : Int)) := by
  obtain ⟨b', off', e, _, hc⟩ := h i hi
  obtain ⟨rfl, rfl⟩ : b = b' ∧ off = off' := by simpa using e
  exact hc
theorem OwnsI.list {B : Nat} {v : Value} {xs : List Nat} {w : World} (h : OwnsI B v xs w) : ∃ ad cap, v = .slice ad xs.length cap ∧ xs.length ≤ cap ∧ ListAt w.heap.size w ad xs := by
  have hs := h.shape
  obtain ⟨hl, h⟩ := h
  rcases h with ⟨rfl, h0⟩ | ⟨g, cap, cur, rfl, hb, hg, hn, hc, _⟩
  · have : xs = [] := List.eq_nil_of_length_eq_zero h0
    subst this
    exact ⟨none, 0, rfl, Nat.le_refl _, fun i hi => by simp at hi⟩
  · obtain ⟨a', cap', e, hat⟩ := hs
    obtain ⟨rfl, _, rfl⟩ : some (⟨g, 0, none⟩ : Addr) = a' ∧ True ∧ cap = cap' := by simpa using e
    refine ⟨_, cap, rfl, hn, fun i hi => ?_⟩
    obtain ⟨b, off, e2, hc2⟩ := hat i (by simpa using hi)
    obtain ⟨rfl, rfl⟩ : g = b ∧ 0 = off := by simpa using e2
    refine ⟨g, 0, rfl, (Array.getElem?_eq_some_iff.1 hg).1, ?_⟩
    rw [hc2]
    simp [List.getD_eq_getElem?_getD, List.getElem?_eq_getElem hi]

theorem app_done {B : Nat} {w1 wr wa w9 : World} {v v' : Value} {done : List Run} {r : Run} (hown : OwnsR B v done wr) (hbe : Below B w1 wa) (hB : B ≤ wa.heap.size) (hg : wa.grownBy w9 v.ownBlock)
    (h9 : w9.ownsRow B 29 3 v' (done.length + 1) (cellsR done ++ [.int .i64 r.lo, .int .i64 r.hi, .int .i64 r.st])) : OwnsR B v' (done ++ [r]) w9 ∧ Below B w1 w9 := by
  refine ⟨?_, hbe.grown hg hB (fun k e => (hown.lt k e).1)⟩
  unfold OwnsR
  rw [cellsR_snoc]
  simpa using h9
theorem lrun_step {ys : List Nat} {done R : List Run} {m x0 xl G : Nat} {st : Int} (h : done ++ lrun ys :: lruns G (ys.drop (lhead ys).1) = R) (hl : lhead ys = (m, st)) (h0 : ys.getD 0 0 = x0) (h1 : ys.getD (m - 1) 0 = xl) :
    (done ++ [⟨(x0 : Int), (xl : Int), st⟩]) ++ lruns G (ys.drop m) = R := by
  unfold lrun at h
  rw [hl] at h
  simp only [h0, h1] at h
  rw [List.append_assoc]
  exact h
theorem ext_go {ys : List Nat} {st : Int} {E n : Nat} (h : ext ys st (ys.length - n) n = E) (hn : n < ys.length) (hd : ((ys.getD n 0 : Nat) : Int) - ((ys.getD (n - 1) 0 : Nat) : Int) = st) : ext ys st (ys.length - (n + 1)) (n + 1) = E := by
  rw [show ys.length - n = (ys.length - (n + 1)) + 1 by omega, ext, if_pos hd] at h
  exact h
theorem ext_end {ys : List Nat} {st : Int} {E n : Nat} (h : ext ys st (ys.length - n) n = E) (hd : n < ys.length → ((ys.getD n 0 : Nat) : Int) - ((ys.getD (n - 1) 0 : Nat) : Int) ≠ st) : E = n := by
  rw [← h]
  rcases hk : ys.length - n with _ | k
  · rfl
  · rw [ext, if_neg (hd (by omega))]
theorem ownsRow_drewN' {w : World} {base : Nat} {e : TypeId} {size : Nat} {v : Value} {n : Nat} {xs : List Value} (h : w.ownsRow base e size v n xs) (k : Nat) : (w.drewN k).ownsRow base e size v n xs := h
theorem RK.below_drewN2 {B : Nat} {a w : World} (h : Below B a w) (n : Nat) : Below B a (w.drewN n) := ⟨h.os, h.tape, h.output, h.size, h.block⟩
theorem slc {p : Option Addr} {a b c : Nat} (h : a = b) : Value.slice p a c = .slice p b c := by rw [h]
theorem ListAt.drop {B : Nat} {w : World} {b off : Nat} {ys : List Nat} (h : ListAt B w (some ⟨b, off, none⟩) ys) (n : Nat) : ListAt B w (some ⟨b, off + n, none⟩) (ys.drop n) := by
  intro i hi
  rw [List.length_drop] at hi
  obtain ⟨b', off', e, hB, hc⟩ := h (n + i) (by omega)
  obtain ⟨rfl, rfl⟩ : b = b' ∧ off = off' := by simpa using e
  refine ⟨b, off + n, rfl, hB, ?_⟩
  rw [Nat.add_assoc, hc, List.getD_eq_getElem?_getD, List.getD_eq_getElem?_getD, List.getElem?_drop]
theorem ListAt.none {B : Nat} {w : World} {ad : Option Addr} {ys : List Nat} (h : ys.length = 0) : ListAt B w ad ys := fun i hi => by omega

set_option maxRecDepth 10000 in
set_option maxHeartbeats 8000000 in
theorem rruns_walk (s : Nat) (hs : s < 18446744073709551616) (w : World) :
    Calls Tryd.prog 27 #[.int .u64 s] w fun e w' => ∃ v B, e = .returned v ∧ w.heap.size ≤ B ∧ OwnsR B v (runsF 64 s) w' ∧ Below w.heap.size w w' := by
  obtain ⟨i0, hi, hz0, hz1, hz2⟩ := info_parts info_run
  have CL := Lib.hid (rlist_ok s hs w)
  have hml := mem_le s
  have HX := Lib.hid (fun i (h : i ∈ mem s) => (mem_mem.1 h).1)
  go_enter Tryd.func27, Tryd.ntmps27
  go_wp2_with fail
  refine CL.out.mono ?_
  rintro e w1 ⟨v, rfl, hown, hbl⟩
  obtain ⟨ad, cap, rfl, hcap, hat⟩ := hown.list
  have HB := Lib.hid hbl
  have HR := Lib.hid (lruns_eq 64 s hs)
  have HC := Lib.hid hcap
  have HA := Lib.hid hat
  clear hown hbl CL hcap hat
  go_wp2_with fail
  go_loopg [3, 4] 64 (fun f lv ov wr => ∃ (ys : List Nat) (done : List Run) (ad : Option Addr) (cap : Nat), lv = .slice ad ys.length cap ∧ ys.length ≤ cap ∧ ListAt w1.heap.size w1 ad ys ∧ (∀ i, i < ys.length → ys.getD i 0 < 64) ∧ OwnsR w1.heap.size ov done wr ∧ Below w1.heap.size w1 wr ∧ ys.length ≤ f ∧ done.length + f ≤ 64 ∧ done ++ lruns f ys = runsF 64 s)
  case atStart =>
    refine ⟨mem s, [], ad, cap, rfl, HC.out, HA.out, fun i h => ?_, World.ownsRow_nil _ _ _ _, Below.refl _ _, hml, by simp, by rw [HR.out]; rfl⟩
    rw [List.getD_eq_getElem?_getD, List.getElem?_eq_getElem h]
    exact HX.out _ (List.getElem_mem h)
  case round =>
    clear HX HC HA hml HR
    obtain ⟨ys, done, ad, cap, rfl, hcp, hat, h64, hown, hbe, hf, hdf, hR⟩ := hrel
    have HR := Lib.hid hR
    have HO := Lib.hid hown
    have HE := Lib.hid hbe
    have HAT := Lib.hid hat
    have H64 := Lib.hid h64
    clear hR hown hbe hat h64
    by_cases h0 : ys.length = 0
    · obtain rfl := List.eq_nil_of_length_eq_zero h0
      go_wp2
      go_ret
      refine ⟨_, w1.heap.size, rfl, HB.out.size, ?_, HB.out.trans (HE.out.mono HB.out.size)⟩
      have := HR.out
      rw [show lruns gk [] = [] from by cases gk <;> simp [lruns], List.append_nil] at this
      rw [← this]; exact HO.out
    · obtain ⟨G, rfl⟩ : ∃ G, gk = G + 1 := ⟨gk - 1, by omega⟩
      obtain ⟨b, off, rfl, hbB, hc0⟩ := HAT.out 0 (by omega)
      have hl0 : (0 : Int) < (ys.length : Int) := by omega
      have hx0 := H64.out 0 (by omega)
      have HR' : Hid (done ++ lrun ys :: lruns G (ys.drop (lhead ys).1) = runsF 64 s) := Lib.hid (by
        have := HR.out
        rw [lruns, if_neg (by intro h; rw [h] at h0; exact h0 rfl)] at this
        exact this)
      clear HR
      by_cases h1 : ys.length ≤ 1
      · have hd1 : decide ((1 : Int) < (ys.length : Int)) = false := decide_eq_false (by omega)
        have HL : Hid (lhead ys = (1, 1)) := Lib.hid (by unfold lhead; rw [if_pos h1])
        have hc0r : wr.cell? ⟨b, off, none⟩ = some (.int .i64 ((ys.getD 0 0 : Nat) : Int)) := by rw [HE.out.cell (p := ⟨b, off, none⟩) hbB]; exact hc0
        obtain ⟨x0, HX0⟩ : ∃ x0, Hid (ys.getD 0 0 = x0) := ⟨_, Lib.hid rfl⟩
        rw [HX0.out] at hc0r hx0
        have hw0 : IntKind.i64.wrap 0 = 0 := by decide
        clear hc0
        go_wp2_with fail
        go_region_law (first | (refine RK.step_append_own rfl _ _ 27 rfl w1.heap.size 29 i0 (.agg #[.int .i64 0, .int .i64 0, .int .i64 0]) 3 24 Tryd.underlying27 hi hz0 hz1 hz2 rfl (by decide) u4 done.length (cellsR done) (by rfl) (World.ownsRow.drew (World.ownsRow.alloc HO.out _)) ⟨wr.heap.size, 0, none⟩ 1 1 [.int .i64 (x0 : Nat), .int .i64 (x0 : Nat), .int .i64 1] (by rfl) rfl (read3 _ _ _ _ _) (one3 _ _ _) (by unfold maxLen; omega) (by omega) (by have := HE.out.size; simp; omega) ?_; intro v' w9 hown9 hgrow9))
        all_goals (
          have F9 := app_done (r := ⟨x0, x0, 1⟩) HO.out ((HE.out.alloc (by have := HE.out.size; simpa using this) _).drew) (by have := HE.out.size; simp; omega) hgrow9 hown9
          clear hown9 hgrow9
          have F9' := Lib.hid F9
          clear F9
          by_cases hcn : cap = 1
          · have hcl : ys.length = 1 := by omega
            subst hcn
            go_wp2_with fail
            go_roundg G
            case measure => omega
            case rel => exact ⟨ys.drop 1, _, _, _, slc (by have := List.length_drop (i := 1) (l := ys); omega), by rw [List.length_drop]; omega, ListAt.none (by rw [List.length_drop]; omega), (fun i h => by rw [List.length_drop] at h; omega), F9'.out.1, F9'.out.2, by rw [List.length_drop]; omega, by rw [List.length_append, List.length_singleton]; omega, lrun_step HR'.out HL.out HX0.out HX0.out⟩
          · go_wp2_with fail
            go_roundg G
            case measure => omega
            case rel => exact ⟨ys.drop 1, _, _, _, slc (by have := List.length_drop (i := 1) (l := ys); omega), by rw [List.length_drop]; omega, HAT.out.drop 1, (fun i h => by rw [List.length_drop] at h; rw [List.getD_eq_getElem?_getD, List.getElem?_drop, ← List.getD_eq_getElem?_getD]; exact H64.out _ (by omega)), F9'.out.1, F9'.out.2, by rw [List.length_drop]; omega, by rw [List.length_append, List.length_singleton]; omega, lrun_step HR'.out HL.out HX0.out HX0.out⟩)
      · have h2 : 2 ≤ ys.length := by omega
        have hl64 : ys.length ≤ 64 := by omega
        obtain ⟨x0, HX0⟩ : ∃ x0, Hid (ys.getD 0 0 = x0) := ⟨_, Lib.hid rfl⟩
        obtain ⟨x1, HX1⟩ : ∃ x1, Hid (ys.getD 1 0 = x1) := ⟨_, Lib.hid rfl⟩
        obtain ⟨st, HST⟩ : ∃ st, Hid (stOf ys = st) := ⟨_, Lib.hid rfl⟩
        obtain ⟨E, HEX⟩ : ∃ E, Hid (ext ys st (ys.length - 2) 2 = E) := ⟨_, Lib.hid rfl⟩
        have hE2 : 2 ≤ E := by have := ext_ge ys st (ys.length - 2) 2; rw [HEX.out] at this; exact this
        have hEl : E ≤ ys.length := by have := ext_le ys st (ys.length - 2) 2; rw [HEX.out] at this; omega
        have hx1 := H64.out 1 (by omega)
        have hcl0 : wr.cell? ⟨b, off, none⟩ = some (.int .i64 (x0 : Nat)) := by rw [HE.out.cell (p := ⟨b, off, none⟩) hbB, ← HX0.out]; exact hc0
        have hcl1 : wr.cell? ⟨b, off + 1, none⟩ = some (.int .i64 (x1 : Nat)) := by rw [HE.out.cell (p := ⟨b, off + 1, none⟩) hbB, HAT.out.at (i := 1) (by omega), HX1.out]
        rw [HX0.out] at hx0
        rw [HX1.out] at hx1
        have hst1 : -64 < st := by have := HST.out; unfold stOf at this; rw [HX0.out, HX1.out] at this; omega
        have hst2 : st < 64 := by have := HST.out; unfold stOf at this; rw [HX0.out, HX1.out] at this; omega
        have hws : IntKind.i64.wrap ((x1 : Int) - (x0 : Int)) = st := by rw [IntWalk.i64_in _ (by omega)]; have := HST.out; unfold stOf at this; rw [HX0.out, HX1.out] at this; exact this
        have hb1 : (1 : Int) < (ys.length : Int) := by omega
        have HL : Hid (lhead ys = if E = 2 ∧ 1 < st then (1, 1) else (E, st)) := Lib.hid (by unfold lhead; rw [if_neg h1, HST.out, HEX.out])
        clear hc0
        go_wp2_with fail
        go_quiet (fail)
        go_wp2_with fail
        go_loopg [5] 64 (fun f nv wr3 => ∃ n kd : Nat, nv = .int .i64 n ∧ wr3 = wr.drewN kd ∧ 2 ≤ n ∧ n ≤ ys.length ∧ 64 ≤ n + f ∧ Hid (ext ys st (ys.length - n) n = E))
        case atStart => exact ⟨2, _, rfl, rfl, Nat.le_refl _, h2, by omega, HEX⟩
        case round =>
          obtain ⟨n, kd, rfl, rfl, hn2, hnl, hgk, HN⟩ := hrel
          by_cases hnl2 : n < ys.length
          · obtain ⟨xn, HXN⟩ : ∃ xn, Hid (ys.getD n 0 = xn) := ⟨_, Lib.hid rfl⟩
            obtain ⟨xm, HXM⟩ : ∃ xm, Hid (ys.getD (n - 1) 0 = xm) := ⟨_, Lib.hid rfl⟩
            have hxn := H64.out n hnl2
            have hxm := H64.out (n - 1) (by omega)
            have hcn : wr.cell? ⟨b, off + n, none⟩ = some (.int .i64 (xn : Nat)) := by rw [HE.out.cell (p := ⟨b, off + n, none⟩) hbB, HAT.out.at hnl2, HXN.out]
            have hcm : wr.cell? ⟨b, off + (n - 1), none⟩ = some (.int .i64 (xm : Nat)) := by rw [HE.out.cell (p := ⟨b, off + (n - 1), none⟩) hbB, HAT.out.at (i := n - 1) (by omega), HXM.out]
            rw [HXN.out] at hxn
            rw [HXM.out] at hxm
            have hgd : decide ((n : Int) < (ys.length : Int)) = true := by simpa using hnl2
            have hgd' : decide (n < ys.length) = true := by simpa using hnl2
            obtain ⟨d, HD⟩ : ∃ d, Hid ((xn : Int) - (xm : Int) = d) := ⟨_, Lib.hid rfl⟩
            have hwd : IntKind.i64.wrap ((xn : Int) - (xm : Int)) = d := by rw [IntWalk.i64_in _ (by omega)]; exact HD.out
            have hw1 : IntKind.i64.wrap ((n : Int) - 1) = ((n - 1 : Nat) : Int) := by rw [IntWalk.i64_in _ (by omega)]; omega
            have hp1 : (0 : Int) ≤ ((n - 1 : Nat) : Int) := by omega
            have hp2 : (((n - 1 : Nat) : Int)) < (ys.length : Int) := by omega
            have hp3 : (0 : Int) ≤ (n : Int) := by omega
            have hp4 : (n : Int) < (ys.length : Int) := by omega
            by_cases hd : d = st
            · have hdb : (d == st) = true := by simp [hd]
              have HDD := Lib.hid hd
              clear hd
              go_wp2_with fail
              go_quiet (fail)
              go_wp2_with fail
              go_roundg (gk - 1)
              case measure => omega
              case rel => exact ⟨n + 1, _, by go_num, rfl, by omega, by omega, by omega, Lib.hid (ext_go HN.out hnl2 (by rw [HXN.out, HXM.out, HD.out]; exact HDD.out))⟩
            · have hdb : (d == st) = false := by simp [hd]
              have HDD := Lib.hid hd
              clear hd
              go_wp2_with fail
              go_quiet (fail)
              clear hw1 hp1 hp2 hcm hcn
              have hnE := ext_end HN.out (fun _ => by rw [HXN.out, HXM.out, HD.out]; exact HDD.out)
              have hcl0' := hcl0
              obtain ⟨xl, HXL⟩ : ∃ xl, Hid (ys.getD (n - 1) 0 = xl) := ⟨_, Lib.hid rfl⟩
              have hcl : wr.cell? ⟨b, off + (n - 1), none⟩ = some (.int .i64 (xl : Nat)) := by rw [HE.out.cell (p := ⟨b, off + (n - 1), none⟩) hbB, HAT.out.at (i := n - 1) (by omega), HXL.out]
              have hw1 : IntKind.i64.wrap ((n : Int) - 1) = ((n - 1 : Nat) : Int) := by rw [IntWalk.i64_in _ (by omega)]; omega
              have hp1 : (0 : Int) ≤ ((n - 1 : Nat) : Int) := by omega
              have hp2 : (((n - 1 : Nat) : Int)) < (ys.length : Int) := by omega
              by_cases hA : n = 2 ∧ 1 < st
              · have hw0 : IntKind.i64.wrap 0 = 0 := by decide
                have HLA : Hid (lhead ys = (1, 1)) := Lib.hid (by rw [HL.out, if_pos ⟨by omega, hA.2⟩])
                have hb2 : ((n : Int) == 2) = true := by rw [beq_iff_eq]; omega
                have hs1 : decide (1 < st) = true := decide_eq_true hA.2
                have hbn := hA.1
                have HBN := Lib.hid hbn
                clear HL HN hnE hA hbn
                go_wp2_with fail
                go_region_law (first | (refine RK.step_append_own rfl _ _ 27 rfl w1.heap.size 29 i0 (.agg #[.int .i64 0, .int .i64 0, .int .i64 0]) 3 24 Tryd.underlying27 hi hz0 hz1 hz2 rfl (by decide) u4 done.length (cellsR done) (by rfl) (World.ownsRow.alloc (ownsRow_drewN' HO.out _) _) ⟨wr.heap.size, 0, none⟩ 1 1 [.int .i64 (x0 : Nat), .int .i64 (x0 : Nat), .int .i64 1] (by rfl) rfl (read3 _ _ _ _ _) (one3 _ _ _) (by unfold maxLen; omega) (by omega) (by have := HE.out.size; simp; omega) ?_; intro v' w9 hown9 hgrow9))
                all_goals (
                  have F9 := app_done (r := ⟨x0, x0, 1⟩) HO.out ((RK.below_drewN2 HE.out _).alloc (by have := HE.out.size; simpa using this) _) (by have := HE.out.size; simp; omega) hgrow9 hown9
                  clear hown9 hgrow9
                  have F9' := Lib.hid F9
                  clear F9
                  by_cases hcn : cap = 1
                  · have hcl : ys.length = 1 := by omega
                    subst hcn
                    go_wp2_with fail
                    go_roundg G
                    case measure => omega
                    case rel => exact ⟨ys.drop 1, _, _, _, slc (by have := List.length_drop (i := 1) (l := ys); omega), by rw [List.length_drop]; omega, ListAt.none (by rw [List.length_drop]; omega), (fun i h => by rw [List.length_drop] at h; omega), F9'.out.1, F9'.out.2, by rw [List.length_drop]; omega, by rw [List.length_append, List.length_singleton]; omega, lrun_step HR'.out HLA.out HX0.out HX0.out⟩
                  · go_wp2_with fail
                    go_roundg G
                    case measure => omega
                    case rel => exact ⟨ys.drop 1, _, _, _, slc (by have := List.length_drop (i := 1) (l := ys); omega), by rw [List.length_drop]; omega, HAT.out.drop 1, (fun i h => by rw [List.length_drop] at h; rw [List.getD_eq_getElem?_getD, List.getElem?_drop, ← List.getD_eq_getElem?_getD]; exact H64.out _ (by omega)), F9'.out.1, F9'.out.2, by rw [List.length_drop]; omega, by rw [List.length_append, List.length_singleton]; omega, lrun_step HR'.out HLA.out HX0.out HX0.out⟩)
              · have HLB : Hid (lhead ys = (n, st)) := Lib.hid (by rw [HL.out, if_neg (by rw [hnE]; exact hA), hnE])
                by_cases hb : n = 2
                · have hb2 : ((n : Int) == 2) = true := by rw [beq_iff_eq]; omega
                  have hs1 : decide (1 < st) = false := decide_eq_false (fun h => hA ⟨hb, h⟩)
                  have HBN := Lib.hid hb
                  clear HL HN hnE hA hb
                  go_wp2_with fail
                  go_region_law (first | (refine RK.step_append_own rfl _ _ 27 rfl w1.heap.size 29 i0 (.agg #[.int .i64 0, .int .i64 0, .int .i64 0]) 3 24 Tryd.underlying27 hi hz0 hz1 hz2 rfl (by decide) u4 done.length (cellsR done) (by rfl) (World.ownsRow.alloc (ownsRow_drewN' HO.out _) _) ⟨wr.heap.size, 0, none⟩ 1 1 [.int .i64 (x0 : Nat), .int .i64 (xl : Nat), .int .i64 st] (by rfl) rfl (read3 _ _ _ _ _) (one3 _ _ _) (by unfold maxLen; omega) (by omega) (by have := HE.out.size; simp; omega) ?_; intro v' w9 hown9 hgrow9))
                  all_goals (
                    have F9 := app_done (r := ⟨x0, xl, st⟩) HO.out ((RK.below_drewN2 HE.out _).alloc (by have := HE.out.size; simpa using this) _) (by have := HE.out.size; simp; omega) hgrow9 hown9
                    clear hown9 hgrow9
                    have F9' := Lib.hid F9
                    clear F9
                    by_cases hcn : cap = n
                    · have hcl : ys.length = n := by omega
                      subst hcn
                      go_wp2_with fail
                      go_roundg G
                      case measure => omega
                      case rel => exact ⟨ys.drop cap, _, _, _, slc (by have := List.length_drop (i := cap) (l := ys); omega), by rw [List.length_drop]; omega, ListAt.none (by rw [List.length_drop]; omega), (fun i h => by rw [List.length_drop] at h; omega), F9'.out.1, F9'.out.2, by rw [List.length_drop]; omega, by rw [List.length_append, List.length_singleton]; omega, lrun_step HR'.out HLB.out HX0.out HXL.out⟩
                    · go_wp2_with fail
                      go_roundg G
                      case measure => omega
                      case rel => exact ⟨ys.drop n, _, _, _, slc (by have := List.length_drop (i := n) (l := ys); omega), by rw [List.length_drop]; omega, HAT.out.drop n, (fun i h => by rw [List.length_drop] at h; rw [List.getD_eq_getElem?_getD, List.getElem?_drop, ← List.getD_eq_getElem?_getD]; exact H64.out _ (by omega)), F9'.out.1, F9'.out.2, by rw [List.length_drop]; omega, by rw [List.length_append, List.length_singleton]; omega, lrun_step HR'.out HLB.out HX0.out HXL.out⟩)
                · have hb2 : ((n : Int) == 2) = false := by rw [beq_eq_false_iff_ne]; omega
                  clear HL HN hnE hA
                  go_wp2_with fail
                  go_region_law (first | (refine RK.step_append_own rfl _ _ 27 rfl w1.heap.size 29 i0 (.agg #[.int .i64 0, .int .i64 0, .int .i64 0]) 3 24 Tryd.underlying27 hi hz0 hz1 hz2 rfl (by decide) u4 done.length (cellsR done) (by rfl) (World.ownsRow.alloc (ownsRow_drewN' HO.out _) _) ⟨wr.heap.size, 0, none⟩ 1 1 [.int .i64 (x0 : Nat), .int .i64 (xl : Nat), .int .i64 st] (by rfl) rfl (read3 _ _ _ _ _) (one3 _ _ _) (by unfold maxLen; omega) (by omega) (by have := HE.out.size; simp; omega) ?_; intro v' w9 hown9 hgrow9))
                  all_goals (
                    have F9 := app_done (r := ⟨x0, xl, st⟩) HO.out ((RK.below_drewN2 HE.out _).alloc (by have := HE.out.size; simpa using this) _) (by have := HE.out.size; simp; omega) hgrow9 hown9
                    clear hown9 hgrow9
                    have F9' := Lib.hid F9
                    clear F9
                    by_cases hcn : cap = n
                    · have hcl : ys.length = n := by omega
                      subst hcn
                      go_wp2_with fail
                      go_roundg G
                      case measure => omega
                      case rel => exact ⟨ys.drop cap, _, _, _, slc (by have := List.length_drop (i := cap) (l := ys); omega), by rw [List.length_drop]; omega, ListAt.none (by rw [List.length_drop]; omega), (fun i h => by rw [List.length_drop] at h; omega), F9'.out.1, F9'.out.2, by rw [List.length_drop]; omega, by rw [List.length_append, List.length_singleton]; omega, lrun_step HR'.out HLB.out HX0.out HXL.out⟩
                    · go_wp2_with fail
                      go_roundg G
                      case measure => omega
                      case rel => exact ⟨ys.drop n, _, _, _, slc (by have := List.length_drop (i := n) (l := ys); omega), by rw [List.length_drop]; omega, HAT.out.drop n, (fun i h => by rw [List.length_drop] at h; rw [List.getD_eq_getElem?_getD, List.getElem?_drop, ← List.getD_eq_getElem?_getD]; exact H64.out _ (by omega)), F9'.out.1, F9'.out.2, by rw [List.length_drop]; omega, by rw [List.length_append, List.length_singleton]; omega, lrun_step HR'.out HLB.out HX0.out HXL.out⟩)

          · have hgd : decide ((n : Int) < (ys.length : Int)) = false := by simpa using hnl2
            have hgd' : decide (n < ys.length) = false := by simpa using hnl2
            go_wp2_with fail
            go_quiet (fail)
            have hnE := ext_end HN.out (fun h => absurd h hnl2)
            have hcl0' := hcl0
            obtain ⟨xl, HXL⟩ : ∃ xl, Hid (ys.getD (n - 1) 0 = xl) := ⟨_, Lib.hid rfl⟩
            have hcl : wr.cell? ⟨b, off + (n - 1), none⟩ = some (.int .i64 (xl : Nat)) := by rw [HE.out.cell (p := ⟨b, off + (n - 1), none⟩) hbB, HAT.out.at (i := n - 1) (by omega), HXL.out]
            have hw1 : IntKind.i64.wrap ((n : Int) - 1) = ((n - 1 : Nat) : Int) := by rw [IntWalk.i64_in _ (by omega)]; omega
            have hp1 : (0 : Int) ≤ ((n - 1 : Nat) : Int) := by omega
            have hp2 : (((n - 1 : Nat) : Int)) < (ys.length : Int) := by omega
            by_cases hA : n = 2 ∧ 1 < st
            · have hw0 : IntKind.i64.wrap 0 = 0 := by decide
              have HLA : Hid (lhead ys = (1, 1)) := Lib.hid (by rw [HL.out, if_pos ⟨by omega, hA.2⟩])
              have hb2 : ((n : Int) == 2) = true := by rw [beq_iff_eq]; omega
              have hs1 : decide (1 < st) = true := decide_eq_true hA.2
              have hbn := hA.1
              have HBN := Lib.hid hbn
              clear HL HN hnE hA hbn
              go_wp2_with fail
              go_region_law (first | (refine RK.step_append_own rfl _ _ 27 rfl w1.heap.size 29 i0 (.agg #[.int .i64 0, .int .i64 0, .int .i64 0]) 3 24 Tryd.underlying27 hi hz0 hz1 hz2 rfl (by decide) u4 done.length (cellsR done) (by rfl) (World.ownsRow.alloc (ownsRow_drewN' HO.out _) _) ⟨wr.heap.size, 0, none⟩ 1 1 [.int .i64 (x0 : Nat), .int .i64 (x0 : Nat), .int .i64 1] (by rfl) rfl (read3 _ _ _ _ _) (one3 _ _ _) (by unfold maxLen; omega) (by omega) (by have := HE.out.size; simp; omega) ?_; intro v' w9 hown9 hgrow9))
              all_goals (
                have F9 := app_done (r := ⟨x0, x0, 1⟩) HO.out ((RK.below_drewN2 HE.out _).alloc (by have := HE.out.size; simpa using this) _) (by have := HE.out.size; simp; omega) hgrow9 hown9
                clear hown9 hgrow9
                have F9' := Lib.hid F9
                clear F9
                by_cases hcn : cap = 1
                · have hcl : ys.length = 1 := by omega
                  subst hcn
                  go_wp2_with fail
                  go_roundg G
                  case measure => omega
                  case rel => exact ⟨ys.drop 1, _, _, _, slc (by have := List.length_drop (i := 1) (l := ys); omega), by rw [List.length_drop]; omega, ListAt.none (by rw [List.length_drop]; omega), (fun i h => by rw [List.length_drop] at h; omega), F9'.out.1, F9'.out.2, by rw [List.length_drop]; omega, by rw [List.length_append, List.length_singleton]; omega, lrun_step HR'.out HLA.out HX0.out HX0.out⟩
                · go_wp2_with fail
                  go_roundg G
                  case measure => omega
                  case rel => exact ⟨ys.drop 1, _, _, _, slc (by have := List.length_drop (i := 1) (l := ys); omega), by rw [List.length_drop]; omega, HAT.out.drop 1, (fun i h => by rw [List.length_drop] at h; rw [List.getD_eq_getElem?_getD, List.getElem?_drop, ← List.getD_eq_getElem?_getD]; exact H64.out _ (by omega)), F9'.out.1, F9'.out.2, by rw [List.length_drop]; omega, by rw [List.length_append, List.length_singleton]; omega, lrun_step HR'.out HLA.out HX0.out HX0.out⟩)
            · have HLB : Hid (lhead ys = (n, st)) := Lib.hid (by rw [HL.out, if_neg (by rw [hnE]; exact hA), hnE])
              by_cases hb : n = 2
              · have hb2 : ((n : Int) == 2) = true := by rw [beq_iff_eq]; omega
                have hs1 : decide (1 < st) = false := decide_eq_false (fun h => hA ⟨hb, h⟩)
                have HBN := Lib.hid hb
                clear HL HN hnE hA hb
                go_wp2_with fail
                go_region_law (first | (refine RK.step_append_own rfl _ _ 27 rfl w1.heap.size 29 i0 (.agg #[.int .i64 0, .int .i64 0, .int .i64 0]) 3 24 Tryd.underlying27 hi hz0 hz1 hz2 rfl (by decide) u4 done.length (cellsR done) (by rfl) (World.ownsRow.alloc (ownsRow_drewN' HO.out _) _) ⟨wr.heap.size, 0, none⟩ 1 1 [.int .i64 (x0 : Nat), .int .i64 (xl : Nat), .int .i64 st] (by rfl) rfl (read3 _ _ _ _ _) (one3 _ _ _) (by unfold maxLen; omega) (by omega) (by have := HE.out.size; simp; omega) ?_; intro v' w9 hown9 hgrow9))
                all_goals (
                  have F9 := app_done (r := ⟨x0, xl, st⟩) HO.out ((RK.below_drewN2 HE.out _).alloc (by have := HE.out.size; simpa using this) _) (by have := HE.out.size; simp; omega) hgrow9 hown9
                  clear hown9 hgrow9
                  have F9' := Lib.hid F9
                  clear F9
                  by_cases hcn : cap = n
                  · have hcl : ys.length = n := by omega
                    subst hcn
                    go_wp2_with fail
                    go_roundg G
                    case measure => omega
                    case rel => exact ⟨ys.drop cap, _, _, _, slc (by have := List.length_drop (i := cap) (l := ys); omega), by rw [List.length_drop]; omega, ListAt.none (by rw [List.length_drop]; omega), (fun i h => by rw [List.length_drop] at h; omega), F9'.out.1, F9'.out.2, by rw [List.length_drop]; omega, by rw [List.length_append, List.length_singleton]; omega, lrun_step HR'.out HLB.out HX0.out HXL.out⟩
                  · go_wp2_with fail
                    go_roundg G
                    case measure => omega
                    case rel => exact ⟨ys.drop n, _, _, _, slc (by have := List.length_drop (i := n) (l := ys); omega), by rw [List.length_drop]; omega, HAT.out.drop n, (fun i h => by rw [List.length_drop] at h; rw [List.getD_eq_getElem?_getD, List.getElem?_drop, ← List.getD_eq_getElem?_getD]; exact H64.out _ (by omega)), F9'.out.1, F9'.out.2, by rw [List.length_drop]; omega, by rw [List.length_append, List.length_singleton]; omega, lrun_step HR'.out HLB.out HX0.out HXL.out⟩)
              · have hb2 : ((n : Int) == 2) = false := by rw [beq_eq_false_iff_ne]; omega
                clear HL HN hnE hA
                go_wp2_with fail
                go_region_law (first | (refine RK.step_append_own rfl _ _ 27 rfl w1.heap.size 29 i0 (.agg #[.int .i64 0, .int .i64 0, .int .i64 0]) 3 24 Tryd.underlying27 hi hz0 hz1 hz2 rfl (by decide) u4 done.length (cellsR done) (by rfl) (World.ownsRow.alloc (ownsRow_drewN' HO.out _) _) ⟨wr.heap.size, 0, none⟩ 1 1 [.int .i64 (x0 : Nat), .int .i64 (xl : Nat), .int .i64 st] (by rfl) rfl (read3 _ _ _ _ _) (one3 _ _ _) (by unfold maxLen; omega) (by omega) (by have := HE.out.size; simp; omega) ?_; intro v' w9 hown9 hgrow9))
                all_goals (
                  have F9 := app_done (r := ⟨x0, xl, st⟩) HO.out ((RK.below_drewN2 HE.out _).alloc (by have := HE.out.size; simpa using this) _) (by have := HE.out.size; simp; omega) hgrow9 hown9
                  clear hown9 hgrow9
                  have F9' := Lib.hid F9
                  clear F9
                  by_cases hcn : cap = n
                  · have hcl : ys.length = n := by omega
                    subst hcn
                    go_wp2_with fail
                    go_roundg G
                    case measure => omega
                    case rel => exact ⟨ys.drop cap, _, _, _, slc (by have := List.length_drop (i := cap) (l := ys); omega), by rw [List.length_drop]; omega, ListAt.none (by rw [List.length_drop]; omega), (fun i h => by rw [List.length_drop] at h; omega), F9'.out.1, F9'.out.2, by rw [List.length_drop]; omega, by rw [List.length_append, List.length_singleton]; omega, lrun_step HR'.out HLB.out HX0.out HXL.out⟩
                  · go_wp2_with fail
                    go_roundg G
                    case measure => omega
                    case rel => exact ⟨ys.drop n, _, _, _, slc (by have := List.length_drop (i := n) (l := ys); omega), by rw [List.length_drop]; omega, HAT.out.drop n, (fun i h => by rw [List.length_drop] at h; rw [List.getD_eq_getElem?_getD, List.getElem?_drop, ← List.getD_eq_getElem?_getD]; exact H64.out _ (by omega)), F9'.out.1, F9'.out.2, by rw [List.length_drop]; omega, by rw [List.length_append, List.length_singleton]; omega, lrun_step HR'.out HLB.out HX0.out HXL.out⟩)

end Go.Proofs.YtcgnnmpgdnajnaaDoor.BW
