/- Contracts of plan.Due and the reference's Due. The chapter's examples, plainly. Contracts of ever, daily, ints and works: the chapter's examples hold. A plan in a box of the caller's, through calls. -/
import Derived.Test.YtihadbkjfocdoaaGreatDoorPRe
import Derived.Test.YtihadbkjfocdoaaGreatDoorPTi
import Derived.Test.YtihadbkjfocdoaaGreatDoorMWork
namespace Go.Proofs.YtihadbkjfocdoaaGreatDoor.BW
open Go.RowKit BM Go.Shelf MC RK
open BK hiding ret_bool ret_i64

/-- The plans L lie at a, fourteen cells each, with their spans. -/
def PlsAt (w : World) (a : Option Addr) (L : List (Pl × List (Int × Int))) : Prop := ∀ k (hk : k < L.length), ∃ b off, a = some ⟨b, off, none⟩ ∧ (∀ i, i < 14 → w.cell? ⟨b, off + k * 14 + i, none⟩ = (plV L[k].1)[i]?) ∧ PArg w L[k].1 L[k].2
theorem PlsAt.below {w w' : World} {a : Option Addr} {L : List (Pl × List (Int × Int))} (h : PlsAt w a L) (hb : Below w.heap.size w w') : PlsAt w' a L := fun k hk => by
  obtain ⟨b, off, e, h1, h2⟩ := h k hk
  refine ⟨b, off, e, fun i hi => ?_, h2.below hb⟩
  have hc := h1 i hi
  have hv : ∃ v, (plV L[k].1)[i]? = some v := by
    have : i < (plV L[k].1).size := hi
    exact ⟨_, Array.getElem?_eq_getElem this⟩
  obtain ⟨v, hv⟩ := hv
  rw [hv] at hc ⊢
  exact (hb.cell (p := ⟨b, off + k * 14 + i, none⟩) (World.block_lt_of_cell? w _ hc)).trans hc
/-- The plans that are due. -/
noncomputable def dueA (t : Int) : List (Pl × List (Int × Int)) → Nat → List Int
  | [], _ => []
  | x :: L, i => if isP x.1 x.2 t then (i : Int) :: dueA t L (i + 1) else dueA t L (i + 1)
def dueE (L : List (Pl × List (Int × Int))) (t : Int) : Int := if 64 < L.length then 12 else if L.any (fun x => decide (plE x.1 x.2 ≠ 0)) then 16 else if vT t then 0 else 14
noncomputable def dueV (L : List (Pl × List (Int × Int))) (t : Int) : List Int := if dueE L t = 0 then dueA t L 0 else []
theorem dueA_drop (t : Int) (L : List (Pl × List (Int × Int))) (k : Nat) (hk : k < L.length) : dueA t (L.drop k) k = if isP L[k].1 L[k].2 t then (k : Int) :: dueA t (L.drop (k + 1)) (k + 1) else dueA t (L.drop (k + 1)) (k + 1) := by
  rw [List.drop_eq_getElem_cons hk]; rfl
theorem dueA_len (t : Int) : ∀ (L : List (Pl × List (Int × Int))) (i : Nat), (dueA t L i).length ≤ L.length := by
  intro L
  induction L with
  | nil => intro i; exact Nat.le_refl _
  | cons x L ih =>
    intro i
    have := ih (i + 1)
    simp only [dueA]
    split <;> simp <;> omega
theorem ret_veD {u v : Value} {c d : Int} (h : u = v) (h' : c = d) : Ending.returned (.tuple #[u, .int .i64 c]) = .returned (.tuple #[v, .int .i64 d]) := by rw [h, h']
def OwnsJ (B : Nat) (v : Value) (ys : List Int) (w : World) : Prop := w.ownsRow B 3 1 v ys.length (ys.map tcell)
theorem OwnsJ.below {B : Nat} {v : Value} {ys : List Int} {X Y : World} (h : OwnsJ B v ys X) (hb : Below X.heap.size X Y) : OwnsJ B v ys Y :=
  ⟨h.1, h.2.imp id fun ⟨g, cap, cur, h1, h2, h3, h4⟩ => ⟨g, cap, cur, h1, h2, (hb.block g (Array.getElem?_eq_some_iff.1 h3).1).trans h3, h4⟩⟩
/-- What is known in the rounds of Due. -/
structure DuI (w : World) (v : Value) (ys : List Int) (W : World) : Prop where
  own : OwnsJ w.heap.size v ys W
  below : Below w.heap.size w W
theorem DuI.next {w : World} {v : Value} {ys : List Int} {X Y : World} (h : DuI w v ys X) (hb : Below X.heap.size X Y) : DuI w v ys Y := ⟨h.own.below hb, h.below.trans (hb.mono h.below.size)⟩
theorem DuI.push {w : World} {v v' : Value} {ys : List Int} {d : Int} {X Y : World} {tmp : Obj} (h : DuI w v ys X)
    (hown' : Y.ownsRow w.heap.size 3 1 v' (ys.length + 1) (ys.map tcell ++ [.int .i64 d])) (hgrow : (X.alloc tmp).grownBy Y v.ownBlock) : DuI w v' (ys ++ [d]) Y := by
  have hrow : X.ownsRow w.heap.size 3 1 v ys.length (ys.map tcell) := h.own
  refine ⟨by unfold OwnsJ; simpa [tcell] using hown', ?_⟩
  refine h.below.trans (((Below.refl w.heap.size X).alloc (by have := h.below.size; omega) tmp).grown hgrow (by simp; have := h.below.size; omega) fun j ej => ?_)
  rcases Nat.lt_or_ge j w.heap.size with h' | h'
  · exact absurd ej.symm (own_ge hrow h')
  · omega
theorem due_bad {L : List (Pl × List (Int × Int))} {t : Int} (h : ¬ 64 < L.length) {k : Nat} (hk : k < L.length) (he : plE L[k].1 L[k].2 ≠ 0) : dueE L t = 16 := by
  unfold dueE
  rw [if_neg h, if_pos]
  exact List.any_eq_true.2 ⟨L[k], List.getElem_mem hk, by simpa using he⟩
theorem due_ok {L : List (Pl × List (Int × Int))} {t : Int} (h : ¬ 64 < L.length) (he : ∀ k (hk : k < L.length), plE L[k].1 L[k].2 = 0) : dueE L t = if vT t then 0 else 14 := by
  unfold dueE
  rw [if_neg h, if_neg]
  intro hh
  obtain ⟨x, hx, hi⟩ := List.any_eq_true.1 hh
  obtain ⟨k, hk, rfl⟩ := List.getElem_of_mem hx
  simp only [decide_eq_true_eq] at hi
  exact hi (he k hk)
theorem fin_one {p : Pl} {l : List (Int × Int)} {t : Int} (h : plE p l = 0) (ht : 0 ≤ t ∧ t ≤ 253402300799) : finE p l [t] = 0 := by unfold finE; rw [if_pos h]; exact timesR_one ht

set_option maxRecDepth 8000 in
set_option maxHeartbeats 8000000 in
theorem pldue_ok (L : List (Pl × List (Int × Int))) (a : Option Addr) (n c : Nat) (hn : L.length = n) (hn9 : n < 9223372036854775807) (t : Int) (w : World) (h : PlsAt w a L) : Calls Tryz.prog 23 #[.slice a n c, .int .i64 t] w fun r w' =>
    ∃ v, r = .returned (.tuple #[v, .int .i64 (dueE L t)]) ∧ OwnsJ w.heap.size v (dueV L t) w' ∧ Below w.heap.size w w' := by
  obtain ⟨i0, hi0, hz0, hz1, hz2⟩ := info_parts info_int
  have HN := Lib.hid hn
  have HL := Lib.hid (fun W (hW : Below w.heap.size w W) => h.below hW)
  have HDV : Hid (dueV L t = if dueE L t = 0 then dueA t L 0 else []) := Lib.hid rfl
  have HNIL : Hid (OwnsJ w.heap.size (.slice none 0 0) [] w) := Lib.hid ⟨rfl, .inl ⟨rfl, rfl⟩⟩
  clear h hn
  obtain ⟨R, hR⟩ : ∃ R, dueV L t = R := ⟨_, rfl⟩
  rw [hR] at HDV ⊢
  clear hR
  by_cases h64 : 64 < n
  · have d1 : decide (64 < n) = true := decide_eq_true h64
    have d1' : decide ((64 : Int) < n) = true := decide_eq_true (by omega)
    have HE : Hid (dueE L t = 12) := Lib.hid (by unfold dueE; rw [if_pos (by have := HN.out; omega)])
    have HRE : Hid (R = []) := Lib.hid (by rw [HDV.out, HE.out]; rfl)
    clear h64 hn9
    go_enter Tryz.func23, Tryz.ntmps23
    go_wp2_with fail
    go_ret2
    exact ⟨_, ret_veD rfl HE.out.symm, by rw [HRE.out]; exact HNIL.out, Below.refl _ _⟩
  · have d1 : decide (64 < n) = false := decide_eq_false h64
    have d1' : decide ((64 : Int) < n) = false := decide_eq_false (by omega)
    have hn64 : n ≤ 64 := by omega
    have HLN : Hid (¬ 64 < L.length) := Lib.hid (by have := HN.out; omega)
    clear h64
    go_enter Tryz.func23, Tryz.ntmps23
    go_wp2_with fail
    go_loopw [19] (fun s1 wr => ∃ k : Nat, k ≤ n ∧ s1 = .int .i64 k ∧ Below w.heap.size w wr ∧ ∀ i (hi : i < L.length), i < k → plE L[i].1 L[i].2 = 0) (fun s1 _ => n - intM s1)
    case atStart => exact ⟨0, Nat.zero_le _, rfl, Below.refl _ _, fun i hi h => absurd h (Nat.not_lt_zero _)⟩
    case round =>
      obtain ⟨k, hk, rfl, hB, hok⟩ := hrel
      have HB := Lib.hid hB
      have HOK := Lib.hid hok
      clear hok hB
      rcases Nat.lt_or_ge k n with hlt | hge
      · have hkl : k < L.length := by have := HN.out; omega
        obtain ⟨b, off, hab, hcl, hpa⟩ := HL.out _ HB.out k hkl
        subst hab
        have HX := Lib.hid (fun (he : plE L[k].1 L[k].2 ≠ 0) => due_bad (t := t) HLN.out hkl he)
        have HY := Lib.hid (fun (he : plE L[k].1 L[k].2 = 0) i (hi : i < L.length) (h : i < k + 1) => (by
          rcases Nat.lt_or_ge i k with h4 | h4
          · exact HOK.out i hi h4
          · obtain rfl : i = k := by omega
            exact he : plE L[i].1 L[i].2 = 0))
        generalize L[k].1 = p at *
        generalize L[k].2 = l at *
        have p0 : wr.cell? ⟨b, off + k * 14, none⟩ = some (.int .i64 p.k) := hcl 0 (by decide)
        have p1 : wr.cell? ⟨b, off + k * 14 + 1, none⟩ = some (.int .u64 p.x.s) := hcl 1 (by decide)
        have p2 : wr.cell? ⟨b, off + k * 14 + 2, none⟩ = some (.int .u64 p.x.mi) := hcl 2 (by decide)
        have p3 : wr.cell? ⟨b, off + k * 14 + 3, none⟩ = some (.int .u64 p.x.h) := hcl 3 (by decide)
        have p4 : wr.cell? ⟨b, off + k * 14 + 4, none⟩ = some (.int .u64 p.x.d) := hcl 4 (by decide)
        have p5 : wr.cell? ⟨b, off + k * 14 + 5, none⟩ = some (.int .u64 p.x.mo) := hcl 5 (by decide)
        have p6 : wr.cell? ⟨b, off + k * 14 + 6, none⟩ = some (.int .u64 p.x.w) := hcl 6 (by decide)
        have p7 : wr.cell? ⟨b, off + k * 14 + 7, none⟩ = some (.bool p.x.ad) := hcl 7 (by decide)
        have p8 : wr.cell? ⟨b, off + k * 14 + 8, none⟩ = some (.bool p.x.aw) := hcl 8 (by decide)
        have p9 : wr.cell? ⟨b, off + k * 14 + 9, none⟩ = some (.int .i64 p.z) := hcl 9 (by decide)
        have p10 : wr.cell? ⟨b, off + k * 14 + 10, none⟩ = some (.int .i64 p.e.s) := hcl 10 (by decide)
        have p11 : wr.cell? ⟨b, off + k * 14 + 11, none⟩ = some (.int .i64 p.e.p) := hcl 11 (by decide)
        have p12 : wr.cell? ⟨b, off + k * 14 + 12, none⟩ = some (.int .i64 p.e.c) := hcl 12 (by decide)
        have p13 : wr.cell? ⟨b, off + k * 14 + 13, none⟩ = some (.slice p.a p.n p.c) := hcl 13 (by decide)
        have HPA := Lib.hid hpa
        clear hcl hpa
        have C := Lib.hid (plcheck_ok p l (wr.alloc (.cells (plV p) 52)) (HPA.out.below ((Below.refl _ wr).alloc (Nat.le_refl _) _)))
        have hcs := plE_cases p l
        unfold plV at C
        rcases hcs with he | he
        · have HE := Lib.hid (HY.out he)
          rw [he] at C
          clear he HX HY
          go_wp2_with fail
          refine (C.out).mono ?_
          rintro e_ w3 ⟨rfl, hb⟩
          have HB3 := Lib.hid ((HB.out.alloc HB.out.size (.cells (plV p) 52)).trans (Below.mono (w := wr.alloc (.cells (plV p) 52)) hb (HB.out.alloc HB.out.size (.cells (plV p) 52)).size))
          clear hb
          go_wp2_with fail
          refine ⟨⟨k + 1, by omega, by go_num, HB3.out, HE.out⟩, ?_⟩
          simp [intM]; omega
        · have HE := Lib.hid (HX.out (by omega))
          have HRE : Hid (R = []) := Lib.hid (by rw [HDV.out, HE.out]; rfl)
          rw [he] at C
          clear he HX HY
          go_wp2_with fail
          refine (C.out).mono ?_
          rintro e_ w3 ⟨rfl, hb⟩
          have HB3 := Lib.hid ((HB.out.alloc HB.out.size (.cells (plV p) 52)).trans (Below.mono (w := wr.alloc (.cells (plV p) 52)) hb (HB.out.alloc HB.out.size (.cells (plV p) 52)).size))
          clear hb
          go_wp2_with fail
          go_ret2
          exact ⟨_, ret_veD rfl HE.out.symm, by rw [HRE.out]; exact ⟨rfl, .inl ⟨rfl, rfl⟩⟩, HB3.out⟩
      · have hkn : k = n := by omega
        have HAL : Hid (∀ i (hi : i < L.length), plE L[i].1 L[i].2 = 0) := Lib.hid (fun i hi => HOK.out i hi (by have := HN.out; omega))
        have HDE := Lib.hid (due_ok (t := t) HLN.out HAL.out)
        subst hkn
        clear HOK
        by_cases h0 : t < 0
        · have d2 : decide (t < 0) = true := decide_eq_true h0
          have HE : Hid (dueE L t = 14) := Lib.hid (by rw [HDE.out, show vT t = false from by unfold vT; simp; omega]; rfl)
          have HRE : Hid (R = []) := Lib.hid (by rw [HDV.out, HE.out]; rfl)
          clear h0
          go_wp2_with fail
          go_ret2
          exact ⟨_, ret_veD rfl HE.out.symm, by rw [HRE.out]; exact ⟨rfl, .inl ⟨rfl, rfl⟩⟩, HB.out⟩
        · have d2 : decide (t < 0) = false := decide_eq_false h0
          by_cases h9 : 253402300799 < t
          · have d3 : decide (253402300799 < t) = true := decide_eq_true h9
            have HE : Hid (dueE L t = 14) := Lib.hid (by rw [HDE.out, show vT t = false from by unfold vT; simp; omega]; rfl)
            have HRE : Hid (R = []) := Lib.hid (by rw [HDV.out, HE.out]; rfl)
            clear h0 h9
            go_wp2_with fail
            go_ret2
            exact ⟨_, ret_veD rfl HE.out.symm, by rw [HRE.out]; exact ⟨rfl, .inl ⟨rfl, rfl⟩⟩, HB.out⟩
          · have d3 : decide (253402300799 < t) = false := decide_eq_false h9
            have ht : 0 ≤ t ∧ t ≤ 253402300799 := by omega
            have HE : Hid (dueE L t = 0) := Lib.hid (by rw [HDE.out, show vT t = true from by unfold vT; simp; omega]; rfl)
            have HRE : Hid (R = dueA t L 0) := Lib.hid (by rw [HDV.out, if_pos HE.out])
            have HLEN : Hid (R.length ≤ k) := Lib.hid (by rw [HRE.out]; have := dueA_len t L 0; have := HN.out; omega)
            have HT := Lib.hid ht
            have H0 : Hid (DuI w (.slice none 0 0) [] wr) := Lib.hid ⟨⟨rfl, .inl ⟨rfl, rfl⟩⟩, HB.out⟩
            clear h0 h9 ht HB
            go_wp2_with fail
            go_loopw [9, 37] (fun so si wr => ∃ (j : Nat) (ys : List Int), j ≤ k ∧ si = .int .i64 j ∧ DuI w so ys wr ∧ ys ++ dueA t (L.drop j) j = R) (fun _ si _ => k - intM si)
            case atStart => exact ⟨0, [], Nat.zero_le _, rfl, H0.out, HRE.out.symm⟩
            case round =>
              clear H0
              obtain ⟨j, ys, hj, rfl, hI, hys⟩ := hrel
              have HI := Lib.hid hI
              have HYS := Lib.hid hys
              clear hI hys
              rcases Nat.lt_or_ge j k with hlt | hge
              · have hkl : j < L.length := by have := HN.out; omega
                obtain ⟨b, off, hab, hcl, hpa⟩ := HL.out _ HI.out.below j hkl
                subst hab
                have HX := Lib.hid (dueA_drop t L j hkl)
                have HP0 := Lib.hid (HAL.out j hkl)
                generalize L[j].1 = p at *
                generalize L[j].2 = l at *
                have p0 : wr.cell? ⟨b, off + j * 14, none⟩ = some (.int .i64 p.k) := hcl 0 (by decide)
                have p1 : wr.cell? ⟨b, off + j * 14 + 1, none⟩ = some (.int .u64 p.x.s) := hcl 1 (by decide)
                have p2 : wr.cell? ⟨b, off + j * 14 + 2, none⟩ = some (.int .u64 p.x.mi) := hcl 2 (by decide)
                have p3 : wr.cell? ⟨b, off + j * 14 + 3, none⟩ = some (.int .u64 p.x.h) := hcl 3 (by decide)
                have p4 : wr.cell? ⟨b, off + j * 14 + 4, none⟩ = some (.int .u64 p.x.d) := hcl 4 (by decide)
                have p5 : wr.cell? ⟨b, off + j * 14 + 5, none⟩ = some (.int .u64 p.x.mo) := hcl 5 (by decide)
                have p6 : wr.cell? ⟨b, off + j * 14 + 6, none⟩ = some (.int .u64 p.x.w) := hcl 6 (by decide)
                have p7 : wr.cell? ⟨b, off + j * 14 + 7, none⟩ = some (.bool p.x.ad) := hcl 7 (by decide)
                have p8 : wr.cell? ⟨b, off + j * 14 + 8, none⟩ = some (.bool p.x.aw) := hcl 8 (by decide)
                have p9 : wr.cell? ⟨b, off + j * 14 + 9, none⟩ = some (.int .i64 p.z) := hcl 9 (by decide)
                have p10 : wr.cell? ⟨b, off + j * 14 + 10, none⟩ = some (.int .i64 p.e.s) := hcl 10 (by decide)
                have p11 : wr.cell? ⟨b, off + j * 14 + 11, none⟩ = some (.int .i64 p.e.p) := hcl 11 (by decide)
                have p12 : wr.cell? ⟨b, off + j * 14 + 12, none⟩ = some (.int .i64 p.e.c) := hcl 12 (by decide)
                have p13 : wr.cell? ⟨b, off + j * 14 + 13, none⟩ = some (.slice p.a p.n p.c) := hcl 13 (by decide)
                have HPA := Lib.hid hpa
                clear hcl hpa
                have C := Lib.hid (plis_ok p l t (wr.alloc (.cells (plV p) 52)) (HPA.out.below ((Below.refl _ wr).alloc (Nat.le_refl _) _)))
                rw [fin_one HP0.out HT.out, decide_eq_true rfl, Bool.true_and] at C
                unfold plV at C
                have hly : ys.length ≤ 64 := by
                  have h1 := HLEN.out
                  rw [← HYS.out, List.length_append] at h1
                  omega
                obtain ⟨q, hq⟩ : ∃ q, isP p l t = q := ⟨_, rfl⟩
                rw [hq] at C HX
                clear hq
                cases q
                · have HE2 : Hid (ys ++ dueA t (L.drop (j + 1)) (j + 1) = R) := Lib.hid (by rw [← HYS.out, HX.out]; rfl)
                  go_wp2_with fail
                  refine (C.out).mono ?_
                  rintro e_ w5 ⟨rfl, hb⟩
                  have H5 := Lib.hid ((HI.out.next ((Below.refl _ wr).alloc (Nat.le_refl _) (.cells (plV p) 52))).next hb)
                  clear hb
                  go_wp2_with fail
                  refine ⟨⟨j + 1, ys, by omega, by go_num, H5.out, HE2.out⟩, ?_⟩
                  simp [intM]; omega
                · have HE2 : Hid ((ys ++ [(j : Int)]) ++ dueA t (L.drop (j + 1)) (j + 1) = R) := Lib.hid (by rw [← HYS.out, HX.out, List.append_assoc]; rfl)
                  have hml1 : ys.length + 1 ≤ maxLen := by unfold maxLen; omega
                  have hml2 : (ys.length + 1) * 8 ≤ 140737488355328 := by omega
                  have hrow0 : wr.ownsRow w.heap.size 3 1 u9 ys.length (ys.map tcell) := HI.out.own
                  have hrv : (u9 = .slice none 0 0 ∧ ys.length = 0) ∨ ∃ g cap, u9 = .slice (some ⟨g, 0, none⟩) ys.length cap := hrow0.2.imp id (fun ⟨g, cap, _, h, _⟩ => ⟨g, cap, h⟩)
                  clear hrow0
                  rcases hrv with ⟨rfl, hl0⟩ | ⟨g, cap, rfl⟩
                  all_goals
                    go_wp2_with fail
                    refine (C.out).mono ?_
                    rintro e_ w5 ⟨rfl, hb⟩
                    have H5 := Lib.hid ((HI.out.next ((Below.refl _ wr).alloc (Nat.le_refl _) (.cells (plV p) 52))).next hb)
                    have HROW := Lib.hid (show w5.ownsRow w.heap.size 3 1 _ ys.length (ys.map tcell) from H5.out.own)
                    have hsz5 := H5.out.below.size
                    have hml3 : w.heap.size ≤ (w5.alloc (.cells #[.int .i64 (j : Int)] 3)).heap.size := by simp; omega
                    (try rw [hl0] at HROW)
                    clear hb
                    go_wp2_with (at_builtin; refine wpList_append_own _ rfl _ _ 31 rfl w.heap.size 3 i0 (.int .i64 0) 1 8 Tryz.underlying31 hi0 hz0 hz1 hz2 rfl (by decide) _ _ _ rfl (own_alloc HROW.out _) ⟨w5.heap.size, 0, none⟩ 1 1 [.int .i64 (j : Int)] rfl rfl (cell_one_new _ _ _) (by simp [Value.oneCell']) (by first | exact hml1 | (rw [hl0] at hml1; exact hml1)) (by first | exact hml2 | (rw [hl0] at hml2; exact hml2)) hml3 ?_; intro v' w4 hown' hgrow _; have HP := Lib.hid (H5.out.push (d := (j : Int)) (by first | exact hown' | (rw [hl0]; exact hown')) hgrow); obtain ⟨g', cap', rfl⟩ := ownsRow_succ hown'; clear hown' hgrow)
                    refine ⟨⟨j + 1, ys ++ [(j : Int)], by omega, by go_num, HP.out, HE2.out⟩, ?_⟩
                    simp [intM]; omega
              · have hjk : j = k := by omega
                have HE2 : Hid (R = ys) := Lib.hid (by rw [← HYS.out, List.drop_eq_nil_of_le (by have := HN.out; omega)]; simp [dueA])
                subst hjk
                go_wp2_with fail
                go_ret2
                exact ⟨_, ret_veD rfl HE.out.symm, by rw [HE2.out]; exact HI.out.own, HI.out.below⟩

end Go.Proofs.YtihadbkjfocdoaaGreatDoor.BW
namespace Go.Proofs.YtihadbkjfocdoaaGreatDoor.BW
open Go.RowKit BM Go.Shelf MC RK
open BK hiding ret_bool ret_i64

def zX : Ex := ⟨0, 0, 0, 0, 0, 0, false, false⟩
theorem u64_zX : U64s zX := ⟨by decide, by decide, by decide, by decide, by decide, by decide⟩
end Go.Proofs.YtihadbkjfocdoaaGreatDoor.BW
namespace Go.Proofs.YtihadbkjfocdoaaGreatDoor.BW
open Go.RowKit BM Go.Shelf MC RK
open BK hiding ret_bool ret_i64

theorem OwnsJ.shape {B : Nat} {v : Value} {ys : List Int} {w : World} (h : OwnsJ B v ys w) : ∃ a cap, v = .slice a ys.length cap ∧ IntsAt w a ys := by
  obtain ⟨hl, h⟩ := h
  rcases h with ⟨rfl, h0⟩ | ⟨g, cap, cur, rfl, hb, hg, hn, hc, hs, ht⟩
  · have : ys = [] := List.eq_nil_of_length_eq_zero h0
    subst this
    exact ⟨none, 0, rfl, fun k hk => by simp at hk⟩
  · refine ⟨_, cap, rfl, fun k hk => ⟨g, 0, rfl, ?_⟩⟩
    have h1 : (ys.map tcell)[k]? = some (tcell ys[k]) := by simp [hk]
    rw [← ht, List.getElem?_take] at h1
    simp only [Nat.mul_one, hk, if_true] at h1
    have h2 : cur[k]? = some (tcell ys[k]) := by simpa using h1
    simp only [World.cell?, hg, Nat.zero_add, Option.isSome_none, Bool.false_eq_true, if_false, h2]
    rfl
theorem ints_two (W : World) (a b : Int) (T : TypeId) : IntsAt (W.alloc (.cells #[.int .i64 a, .int .i64 b] T)) (some ⟨W.heap.size, 0, none⟩) [a, b] := fun k hk => by
  have hn := Blk.new W T #[.int .i64 a, .int .i64 b]
  have hk' : k = 0 ∨ k = 1 := by simp at hk; omega
  rcases hk' with rfl | rfl
  · exact ⟨_, _, rfl, hn.cell 0⟩
  · exact ⟨_, _, rfl, hn.cell 1⟩
end Go.Proofs.YtihadbkjfocdoaaGreatDoor.BW
namespace Go.Proofs.YtihadbkjfocdoaaGreatDoor.BW
open Go.RowKit BM Go.Shelf MC RK
open BK hiding ret_bool ret_i64

/-- A plan as it comes in. -/
structure PIn (w : World) (p : Pl) (l : List (Int × Int)) : Prop where
  x : U64s p.x
  n : l.length = p.n
  at_ : SpansAt w p.a l
theorem PIn.arg {w : World} {p : Pl} {l : List (Int × Int)} (h : PIn w p l) (hn : p.n ≤ 200) (hT : SpTab w) (hTab : Tab w) : PArg w p l := ⟨h.x, h.n, by omega, h.at_, hT, hTab⟩
end Go.Proofs.YtihadbkjfocdoaaGreatDoor.BW
