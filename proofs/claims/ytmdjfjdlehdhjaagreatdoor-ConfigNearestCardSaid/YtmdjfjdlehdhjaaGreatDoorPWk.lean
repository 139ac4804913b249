/- Contracts of plan.Due and the reference's Due. The chapter's examples, plainly. Contracts of ever, daily, ints and works: the chapter's examples hold. A plan in a box of the caller's, through calls. -/
import Derived.Test.YtmdjfjdlehdhjaaGreatDoorPRe
import Derived.Test.YtmdjfjdlehdhjaaGreatDoorPTi
import Derived.Test.YtmdjfjdlehdhjaaGreatDoorMWork
namespace Go.Proofs.YtmdjfjdlehdhjaaGreatDoor.BW
open Go.RowKit BM Go.Shelf MC RK
open BK hiding ret_bool ret_i64

/-- The plans L lie at a, fourteen cells each, with their spans. -/
def PlsAt (w : World) (a : Option Addr) (L : List (Pl × List (Int × Int))) : Prop := ∀ k (hk : k < L.length), ∃ b off, a = some ⟨b, off, none⟩ ∧ (∀ i, i < 14 → w.cell? ⟨b, off + k * 14 + i, none⟩ = (plV L[k].1)[i]?) ∧ PArg w L[k].1 L[k].2
theorem PlsAt.below {w w' : World} {a : Option Addr} {L : List (Pl × List (Int × Int))} (h : PlsAt w a L) (hb : Below w.heap.size w w') : PlsAt w' a L := fun k hk => by
  obtain ⟨b, off, e, h1, h2⟩ := h k hk
  refine ⟨b, off, e, fun i hi => ?_, h2.below hb⟩
  have hc := h1 i hi
  have hv : ∃ v, (plV L[k].1)[i]? = some v := by
    have : i < (plV L[k].1).size := hi
    exact ⟨_, Array.getElem?_eq_getElem this⟩
  obtain ⟨v, hv⟩ := hv
  rw [hv] at hc ⊢
  exact (hb.cell (p := ⟨b, off + k * 14 + i, none⟩) (World.block_lt_of_cell? w _ hc)).trans hc
/-- The plans that are due. -/
noncomputable def dueA (t : Int) : List (Pl × List (Int × Int)) → Nat → List Int
  | [], _ => []
  | x :: L, i => if isP x.1 x.2 t then (i : Int) :: dueA t L (i + 1) else dueA t L (i + 1)
def dueE (L : List (Pl × List (Int × Int))) (t : Int) : Int := if 64 < L.length then 12 else if L.any (fun x => decide (plE x.1 x.2 ≠ 0)) then 16 else if vT t then 0 else 14
noncomputable def dueV (L : List (Pl × List (Int × Int))) (t : Int) : List Int := if dueE L t = 0 then dueA t L 0 else []
theorem dueA_drop (t : Int) (L : List (Pl × List (Int × Int))) (k : Nat) (hk : k < L.length) : dueA t (L.drop k) k = if isP L[k].1 L[k].2 t then (k : Int) :: dueA t (L.drop (k + 1)) (k + 1) else dueA t (L.drop (k + 1)) (k + 1) := by
  rw [List.drop_eq_getElem_cons hk]; rfl
theorem dueA_len (t : Int) : ∀ (L : List (Pl × List (Int × Int))) (i : Nat), (dueA t L i).length ≤ L.length := by
  intro L
  induction L with
  | nil => intro i; exact Nat.le_refl _
  | cons x L ih =>
    intro i
    have := ih (i + 1)
    simp only [dueA]
    split <;> simp <;> omega
theorem ret_veD {u v : Value} {c d : Int} (h : u = v) (h' : c = d) : Ending.returned (.tuple #[u, .int .i64 c]) = .returned (.tuple #[v, .int .i64 d]) := by rw [h, h']
def OwnsJ (B : Nat) (v : Value) (ys : List Int) (w : World) : Prop := w.ownsRow B 3 1 v ys.length (ys.map tcell)
theorem OwnsJ.below {B : Nat} {v : Value} {ys : List Int} {X Y : World} (h : OwnsJ B v ys X) (hb : Below X.heap.size X Y) : OwnsJ B v ys Y :=
  ⟨h.1, h.2.imp id fun ⟨g, cap, cur, h1, h2, h3, h4⟩ => ⟨g, cap, cur, h1, h2, (hb.block g (Array.getElem?_eq_some_iff.1 h3).1).trans h3, h4⟩⟩
/-- What is known in the rounds of Due. -/
structure DuI (w : World) (v : Value) (ys : List Int) (W : World) : Prop where
  own : OwnsJ w.heap.size v ys W
  below : Below w.heap.size w W
theorem DuI.next {w : World} {v : Value} {ys : List Int} {X Y : World} (h : DuI w v ys X) (hb : Below X.heap.size X Y) : DuI w v ys Y := ⟨h.own.below hb, h.below.trans (hb.mono h.below.size)⟩
theorem DuI.push {w : World} {v v' : Value} {ys : List Int} {d : Int} {X Y : World} {tmp : Obj} (h : DuI w v ys X)
    (hown' : Y.ownsRow w.heap.size 3 1 v' (ys.length + 1) (ys.map tcell ++ [.int .i64 d])) (hgrow : (X.alloc tmp).grownBy Y v.ownBlock) : DuI w v' (ys ++ [d]) Y := by
  have hrow : X.ownsRow w.heap.size 3 1 v ys.length (ys.map tcell) := h.own
  refine ⟨by unfold OwnsJ; simpa [tcell] using hown', ?_⟩
  refine h.below.trans (((Below.refl w.heap.size X).alloc (by have := h.below.size; omega) tmp).grown hgrow (by simp; have := h.below.size; omega) fun j ej => ?_)
  rcases Nat.lt_or_ge j w.heap.size with h' | h'
  · exact absurd ej.symm (own_ge hrow h')
  · omega
theorem due_bad {L : List (Pl × List (Int × Int))} {t : Int} (h : ¬ 64 < L.length) {k : Nat} (hk : k < L.length) (he : plE L[k].1 L[k].2 ≠ 0) : dueE L t = 16 := by
  unfold dueE
  rw [if_neg h, if_pos]
  exact List.any_eq_true.2 ⟨L[k], List.getElem_mem hk, by simpa using he⟩
theorem due_ok {L : List (Pl × List (Int × Int))} {t : Int} (h : ¬ 64 < L.length) (he : ∀ k (hk : k < L.length), plE L[k].1 L[k].2 = 0) : dueE L t = if vT t then 0 else 14 := by
  unfold dueE
  rw [if_neg h, if_neg]
  intro hh
  obtain ⟨x, hx, hi⟩ := List.any_eq_true.1 hh
  obtain ⟨k, hk, rfl⟩ := List.getElem_of_mem hx
  simp only [decide_eq_true_eq] at hi
  exact hi (he k hk)
theorem fin_one {p : Pl} {l : List (Int × Int)} {t : Int} (h : plE p l = 0) (ht : 0 ≤ t ∧ t ≤ 253402300799) : finE p l [t] = 0 := by unfold finE; rw [if_pos h]; exact timesR_one ht

set_option maxRecDepth 8000 in
set_option maxHeartbeats 8000000 in
theorem pldue_ok (L : List (Pl × List (Int × Int))) (a : Option Addr) (n c : Nat) (hn : L.length = n) (hn9 : n < 9223372036854775807) (t : Int) (w : World) (h : PlsAt w a L) : Calls Tryz.prog 17 #[.slice a n c, .int .i64 t] w fun r w' =>
    ∃ v, r = .returned (.tuple #[v, .int .i64 (dueE L t)]) ∧ OwnsJ w.heap.size v (dueV L t) w' ∧ Below w.heap.size w w' := by
  obtain ⟨i0, hi0, hz0, hz1, hz2⟩ := info_parts info_int
  have HN := Lib.hid hn
  have HL := Lib.hid (fun W (hW : Below w.heap.size w W) => h.below hW)
  have HDV : Hid (dueV L t = if dueE L t = 0 then dueA t L 0 else []) := Lib.hid rfl
  have HNIL : Hid (OwnsJ w.heap.size (.slice none 0 0) [] w) := Lib.hid ⟨rfl, .inl ⟨rfl, rfl⟩⟩
  clear h hn
  obtain ⟨R, hR⟩ : ∃ R, dueV L t = R := ⟨_, rfl⟩
  rw [hR] at HDV ⊢
  clear hR
  by_cases h64 : 64 < n
  · have d1 : decide (64 < n) = true := decide_eq_true h64
    have d1' : decide ((64 : Int) < n) = true := decide_eq_true (by omega)
    have HE : Hid (dueE L t = 12) := Lib.hid (by unfold dueE; rw [if_pos (by have := HN.out; omega)])
    have HRE : Hid (R = []) := Lib.hid (by rw [HDV.out, HE.out]; rfl)
    clear h64 hn9
    go_enter Tryz.func17, Tryz.ntmps17
    go_wp2_with fail
    go_ret2
    exact ⟨_, ret_veD rfl HE.out.symm, by rw [HRE.out]; exact HNIL.out, Below.refl _ _⟩
  · have d1 : decide (64 < n) = false := decide_eq_false h64
    have d1' : decide ((64 : Int) < n) = false := decide_eq_false (by omega)
    have hn64 : n ≤ 64 := by omega
    have HLN : Hid (¬ 64 < L.length) := Lib.hid (by have := HN.out; omega)
    clear h64
    go_enter Tryz.func17, Tryz.ntmps17
    go_wp2_with fail
    go_loopw [19] (fun s1 wr => ∃ k : Nat, k ≤ n ∧ s1 = .int .i64 k ∧ Below w.heap.size w wr ∧ ∀ i (hi : i < L.length), i < k → plE L[i].1 L[i].2 = 0) (fun s1 _ => n - intM s1)
    case atStart => exact ⟨0, Nat.zero_le _, rfl, Below.refl _ _, fun i hi h => absurd h (Nat.not_lt_zero _)⟩
    case round =>
      obtain ⟨k, hk, rfl, hB, hok⟩ := hrel
      have HB := Lib.hid hB
      have HOK := Lib.hid hok
      clear hok hB
      rcases Nat.lt_or_ge k n with hlt | hge
      · have hkl : k < L.length := by have := HN.out; omega
        obtain ⟨b, off, hab, hcl, hpa⟩ := HL.out _ HB.out k hkl
        subst hab
        have HX := Lib.hid (fun (he : plE L[k].1 L[k].2 ≠ 0) => due_bad (t := t) HLN.out hkl he)
        have HY := Lib.hid (fun (he : plE L[k].1 L[k].2 = 0) i (hi : i < L.length) (h : i < k + 1) => (by
          rcases Nat.lt_or_ge i k with h4 | h4
          · exact HOK.out i hi h4
          · obtain rfl : i = k := by omega
            exact he : plE L[i].1 L[i].2 = 0))
        generalize L[k].1 = p at *
        generalize L[k].2 = l at *
        have p0 : wr.cell? ⟨b, off + k * 14, none⟩ = some (.int .i64 p.k) := hcl 0 (by decide)
        have p1 : wr.cell? ⟨b, off + k * 14 + 1, none⟩ = some (.int .u64 p.x.s) := hcl 1 (by decide)
        have p2 : wr.cell? ⟨b, off + k * 14 + 2, none⟩ = some (.int .u64 p.x.mi) := hcl 2 (by decide)
        have p3 : wr.cell? ⟨b, off + k * 14 + 3, none⟩ = some (.int .u64 p.x.h) := hcl 3 (by decide)
        have p4 : wr.cell? ⟨b, off + k * 14 + 4, none⟩ = some (.int .u64 p.x.d) := hcl 4 (by decide)
        have p5 : wr.cell? ⟨b, off + k * 14 + 5, none⟩ = some (.int .u64 p.x.mo) := hcl 5 (by decide)
        have p6 : wr.cell? ⟨b, off + k * 14 + 6, none⟩ = some (.int .u64 p.x.w) := hcl 6 (by decide)
        have p7 : wr.cell? ⟨b, off + k * 14 + 7, none⟩ = some (.bool p.x.ad) := hcl 7 (by decide)
        have p8 : wr.cell? ⟨b, off + k * 14 + 8, none⟩ = some (.bool p.x.aw) := hcl 8 (by decide)
        have p9 : wr.cell? ⟨b, off + k * 14 + 9, none⟩ = some (.int .i64 p.z) := hcl 9 (by decide)
        have p10 : wr.cell? ⟨b, off + k * 14 + 10, none⟩ = some (.int .i64 p.e.s) := hcl 10 (by decide)
        have p11 : wr.cell? ⟨b, off + k * 14 + 11, none⟩ = some (.int .i64 p.e.p) := hcl 11 (by decide)
        have p12 : wr.cell? ⟨b, off + k * 14 + 12, none⟩ = some (.int .i64 p.e.c) := hcl 12 (by decide)
        have p13 : wr.cell? ⟨b, off + k * 14 + 13, none⟩ = some (.slice p.a p.n p.c) := hcl 13 (by decide)
        have HPA := Lib.hid hpa
        clear hcl hpa
        have C := Lib.hid (plcheck_ok p l (wr.alloc (.cells (plV p) 29)) (HPA.out.below ((Below.refl _ wr).alloc (Nat.le_refl _) _)))
        have hcs := plE_cases p l
        unfold plV at C
        rcases hcs with he | he
        · have HE := Lib.hid (HY.out he)
          rw [he] at C
          clear he HX HY
          go_wp2_with fail
          refine (C.out).mono ?_
          rintro e_ w3 ⟨rfl, hb⟩
          have HB3 := Lib.hid ((HB.out.alloc HB.out.size (.cells (plV p) 29)).trans (Below.mono (w := wr.alloc (.cells (plV p) 29)) hb (HB.out.alloc HB.out.size (.cells (plV p) 29)).size))
          clear hb
          go_wp2_with fail
          refine ⟨⟨k + 1, by omega, by go_num, HB3.out, HE.out⟩, ?_⟩
          simp [intM]; omega
        · have HE := Lib.hid (HX.out (by omega))
          have HRE : Hid (R = []) := Lib.hid (by rw [HDV.out, HE.out]; rfl)
          rw [he] at C
          clear he HX HY
          go_wp2_with fail
          refine (C.out).mono ?_
          rintro e_ w3 ⟨rfl, hb⟩
          have HB3 := Lib.hid ((HB.out.alloc HB.out.size (.cells (plV p) 29)).trans (Below.mono (w := wr.alloc (.cells (plV p) 29)) hb (HB.out.alloc HB.out.size (.cells (plV p) 29)).size))
          clear hb
          go_wp2_with fail
          go_ret2
          exact ⟨_, ret_veD rfl HE.out.symm, by rw [HRE.out]; exact ⟨rfl, .inl ⟨rfl, rfl⟩⟩, HB3.out⟩
      · have hkn : k = n := by omega
        have HAL : Hid (∀ i (hi : i < L.length), plE L[i].1 L[i].2 = 0) := Lib.hid (fun i hi => HOK.out i hi (by have := HN.out; omega))
        have HDE := Lib.hid (due_ok (t := t) HLN.out HAL.out)
        subst hkn
        clear HOK
        by_cases h0 : t < 0
        · have d2 : decide (t < 0) = true := decide_eq_true h0
          have HE : Hid (dueE L t = 14) := Lib.hid (by rw [HDE.out, show vT t = false from by unfold vT; simp; omega]; rfl)
          have HRE : Hid (R = []) := Lib.hid (by rw [HDV.out, HE.out]; rfl)
          clear h0
          go_wp2_with fail
          go_ret2
          exact ⟨_, ret_veD rfl HE.out.symm, by rw [HRE.out]; exact ⟨rfl, .inl ⟨rfl, rfl⟩⟩, HB.out⟩
        · have d2 : decide (t < 0) = false := decide_eq_false h0
          by_cases h9 : 253402300799 < t
          · have d3 : decide (253402300799 < t) = true := decide_eq_true h9
            have HE : Hid (dueE L t = 14) := Lib.hid (by rw [HDE.out, show vT t = false from by unfold vT; simp; omega]; rfl)
            have HRE : Hid (R = []) := Lib.hid (by rw [HDV.out, HE.out]; rfl)
            clear h0 h9
            go_wp2_with fail
            go_ret2
            exact ⟨_, ret_veD rfl HE.out.symm, by rw [HRE.out]; exact ⟨rfl, .inl ⟨rfl, rfl⟩⟩, HB.out⟩
          · have d3 : decide (253402300799 < t) = false := decide_eq_false h9
            have ht : 0 ≤ t ∧ t ≤ 253402300799 := by omega
            have HE : Hid (dueE L t = 0) := Lib.hid (by rw [HDE.out, show vT t = true from by unfold vT; simp; omega]; rfl)
            have HRE : Hid (R = dueA t L 0) := Lib.hid (by rw [HDV.out, if_pos HE.out])
            have HLEN : Hid (R.length ≤ k) := Lib.hid (by rw [HRE.out]; have := dueA_len t L 0; have := HN.out; omega)
            have HT := Lib.hid ht
            have H0 : Hid (DuI w (.slice none 0 0) [] wr) := Lib.hid ⟨⟨rfl, .inl ⟨rfl, rfl⟩⟩, HB.out⟩
            clear h0 h9 ht HB
            go_wp2_with fail
            go_loopw [9, 37] (fun so si wr => ∃ (j : Nat) (ys : List Int), j ≤ k ∧ si = .int .i64 j ∧ DuI w so ys wr ∧ ys ++ dueA t (L.drop j) j = R) (fun _ si _ => k - intM si)
            case atStart => exact ⟨0, [], Nat.zero_le _, rfl, H0.out, HRE.out.symm⟩
            case round =>
              clear H0
              obtain ⟨j, ys, hj, rfl, hI, hys⟩ := hrel
              have HI := Lib.hid hI
              have HYS := Lib.hid hys
              clear hI hys
              rcases Nat.lt_or_ge j k with hlt | hge
              · have hkl : j < L.length := by have := HN.out; omega
                obtain ⟨b, off, hab, hcl, hpa⟩ := HL.out _ HI.out.below j hkl
                subst hab
                have HX := Lib.hid (dueA_drop t L j hkl)
                have HP0 := Lib.hid (HAL.out j hkl)
                generalize L[j].1 = p at *
                generalize L[j].2 = l at *
                have p0 : wr.cell? ⟨b, off + j * 14, none⟩ = some (.int .i64 p.k) := hcl 0 (by decide)
                have p1 : wr.cell? ⟨b, off + j * 14 + 1, none⟩ = some (.int .u64 p.x.s) := hcl 1 (by decide)
                have p2 : wr.cell? ⟨b, off + j * 14 + 2, none⟩ = some (.int .u64 p.x.mi) := hcl 2 (by decide)
                have p3 : wr.cell? ⟨b, off + j * 14 + 3, none⟩ = some (.int .u64 p.x.h) := hcl 3 (by decide)
                have p4 : wr.cell? ⟨b, off + j * 14 + 4, none⟩ = some (.int .u64 p.x.d) := hcl 4 (by decide)
                have p5 : wr.cell? ⟨b, off + j * 14 + 5, none⟩ = some (.int .u64 p.x.mo) := hcl 5 (by decide)
                have p6 : wr.cell? ⟨b, off + j * 14 + 6, none⟩ = some (.int .u64 p.x.w) := hcl 6 (by decide)
                have p7 : wr.cell? ⟨b, off + j * 14 + 7, none⟩ = some (.bool p.x.ad) := hcl 7 (by decide)
                have p8 : wr.cell? ⟨b, off + j * 14 + 8, none⟩ = some (.bool p.x.aw) := hcl 8 (by decide)
                have p9 : wr.cell? ⟨b, off + j * 14 + 9, none⟩ = some (.int .i64 p.z) := hcl 9 (by decide)
                have p10 : wr.cell? ⟨b, off + j * 14 + 10, none⟩ = some (.int .i64 p.e.s) := hcl 10 (by decide)
                have p11 : wr.cell? ⟨b, off + j * 14 + 11, none⟩ = some (.int .i64 p.e.p) := hcl 11 (by decide)
                have p12 : wr.cell? ⟨b, off + j * 14 + 12, none⟩ = some (.int .i64 p.e.c) := hcl 12 (by decide)
                have p13 : wr.cell? ⟨b, off + j * 14 + 13, none⟩ = some (.slice p.a p.n p.c) := hcl 13 (by decide)
                have HPA := Lib.hid hpa
                clear hcl hpa
                have C := Lib.hid (plis_ok p l t (wr.alloc (.cells (plV p) 29)) (HPA.out.below ((Below.refl _ wr).alloc (Nat.le_refl _) _)))
                rw [fin_one HP0.out HT.out, decide_eq_true rfl, Bool.true_and] at C
                unfold plV at C
                have hly : ys.length ≤ 64 := by
                  have h1 := HLEN.out
                  rw [← HYS.out, List.length_append] at h1
                  omega
                obtain ⟨q, hq⟩ : ∃ q, isP p l t = q := ⟨_, rfl⟩
                rw [hq] at C HX
                clear hq
                cases q
                · have HE2 : Hid (ys ++ dueA t (L.drop (j + 1)) (j + 1) = R) := Lib.hid (by rw [← HYS.out, HX.out]; rfl)
                  go_wp2_with fail
                  refine (C.out).mono ?_
                  rintro e_ w5 ⟨rfl, hb⟩
                  have H5 := Lib.hid ((HI.out.next ((Below.refl _ wr).alloc (Nat.le_refl _) (.cells (plV p) 29))).next hb)
                  clear hb
                  go_wp2_with fail
                  refine ⟨⟨j + 1, ys, by omega, by go_num, H5.out, HE2.out⟩, ?_⟩
                  simp [intM]; omega
                · have HE2 : Hid ((ys ++ [(j : Int)]) ++ dueA t (L.drop (j + 1)) (j + 1) = R) := Lib.hid (by rw [← HYS.out, HX.out, List.append_assoc]; rfl)
                  have hml1 : ys.length + 1 ≤ maxLen := by unfold maxLen; omega
                  have hml2 : (ys.length + 1) * 8 ≤ 140737488355328 := by omega
                  have hrow0 : wr.ownsRow w.heap.size 3 1 u9 ys.length (ys.map tcell) := HI.out.own
                  have hrv : (u9 = .slice none 0 0 ∧ ys.length = 0) ∨ ∃ g cap, u9 = .slice (some ⟨g, 0, none⟩) ys.length cap := hrow0.2.imp id (fun ⟨g, cap, _, h, _⟩ => ⟨g, cap, h⟩)
                  clear hrow0
                  rcases hrv with ⟨rfl, hl0⟩ | ⟨g, cap, rfl⟩
                  all_goals
                    go_wp2_with fail
                    refine (C.out).mono ?_
                    rintro e_ w5 ⟨rfl, hb⟩
                    have H5 := Lib.hid ((HI.out.next ((Below.refl _ wr).alloc (Nat.le_refl _) (.cells (plV p) 29))).next hb)
                    have HROW := Lib.hid (show w5.ownsRow w.heap.size 3 1 _ ys.length (ys.map tcell) from H5.out.own)
                    have hsz5 := H5.out.below.size
                    have hml3 : w.heap.size ≤ (w5.alloc (.cells #[.int .i64 (j : Int)] 3)).heap.size := by simp; omega
                    (try rw [hl0] at HROW)
                    clear hb
                    go_wp2_with (at_builtin; refine wpList_append_own _ rfl _ _ 40 rfl w.heap.size 3 i0 (.int .i64 0) 1 8 Tryz.underlying40 hi0 hz0 hz1 hz2 rfl (by decide) _ _ _ rfl (own_alloc HROW.out _) ⟨w5.heap.size, 0, none⟩ 1 1 [.int .i64 (j : Int)] rfl rfl (cell_one_new _ _ _) (by simp [Value.oneCell']) (by first | exact hml1 | (rw [hl0] at hml1; exact hml1)) (by first | exact hml2 | (rw [hl0] at hml2; exact hml2)) hml3 ?_; intro v' w4 hown' hgrow _; have HP := Lib.hid (H5.out.push (d := (j : Int)) (by first | exact hown' | (rw [hl0]; exact hown')) hgrow); obtain ⟨g', cap', rfl⟩ := ownsRow_succ hown'; clear hown' hgrow)
                    refine ⟨⟨j + 1, ys ++ [(j : Int)], by omega, by go_num, HP.out, HE2.out⟩, ?_⟩
                    simp [intM]; omega
              · have hjk : j = k := by omega
                have HE2 : Hid (R = ys) := Lib.hid (by rw [← HYS.out, List.drop_eq_nil_of_le (by have := HN.out; omega)]; simp [dueA])
                subst hjk
                go_wp2_with fail
                go_ret2
                exact ⟨_, ret_veD rfl HE.out.symm, by rw [HE2.out]; exact HI.out.own, HI.out.below⟩

end Go.Proofs.YtmdjfjdlehdhjaaGreatDoor.BW
namespace Go.Proofs.YtmdjfjdlehdhjaaGreatDoor.BW
open Go.RowKit BM Go.Shelf MC RK
open BK hiding ret_bool ret_i64

def zX : Ex := ⟨0, 0, 0, 0, 0, 0, false, false⟩
def dX : Ex := ⟨1, 1, 1, 4294967294, 8190, 127, true, true⟩
def eV0 : Ev := ⟨10, 60, 3⟩
def pD : Pl := ⟨1, dX, 0, ⟨0, 0, 0⟩, none, 0, 0⟩
def pE (a : Option Addr) (n c : Nat) : Pl := ⟨2, zX, 0, eV0, a, n, c⟩
theorem u64_dX : U64s dX := ⟨by decide, by decide, by decide, by decide, by decide, by decide⟩
theorem u64_zX : U64s zX := ⟨by decide, by decide, by decide, by decide, by decide, by decide⟩
theorem plV_pE (a : Option Addr) (n c : Nat) : plV (pE a n c) = #[.int .i64 2, .int .u64 0, .int .u64 0, .int .u64 0, .int .u64 0, .int .u64 0, .int .u64 0, .bool false, .bool false, .int .i64 0, .int .i64 10, .int .i64 60, .int .i64 3, .slice a n c] := rfl
theorem plV_pD : plV pD = #[.int .i64 1, .int .u64 1, .int .u64 1, .int .u64 1, .int .u64 4294967294, .int .u64 8190, .int .u64 127, .bool true, .bool true, .int .i64 0, .int .i64 0, .int .i64 0, .int .i64 0, .slice none 0 0] := rfl
theorem clk_dX {s : Nat} (h1 : 1 ≤ s) (h2 : s < 86400) : clk dX s = false := by
  have := clk_fri_late s h1 h2
  unfold clk at this ⊢
  exact this
theorem M_dX (n : Nat) : MC.M dX n = true := by
  unfold MC.M dayRule
  show (Nat.testBit 8190 (ymd n).2.1 && true) = true
  rw [month_any]; rfl
theorem At_dX_no {t : Int} (h1 : 1 ≤ t) (h2 : t < 86400) : At dX 0 t = false := by
  unfold At T
  rw [clk_dX (s := (t + 0 * 60).toNat % 86400) (by omega) (by omega), Bool.and_false, Bool.and_false]
theorem At_dX_yes : At dX 0 86400 = true := by
  unfold At T
  rw [M_dX, show ((86400 : Int) + 0 * 60).toNat % 86400 = 0 from by decide]
  rfl
theorem plE_pD : plE pD [] = 0 := by decide +kernel
theorem plE_pE (a : Option Addr) (n c : Nat) {l : List (Int × Int)} (h : spE l = 0) : plE (pE a n c) l = 0 := by
  have e : plK (pE a n c) = true := rfl
  unfold plE
  rw [e, h]; rfl
theorem spE_60 : spE [(60, 80)] = 0 := by decide +kernel
theorem qK_pD (t : Int) : qK pD t = At dX 0 t := by
  unfold qK
  rw [if_pos (show pD.k = 1 from rfl)]; rfl
theorem isP_pE (a : Option Addr) (n c : Nat) (l : List (Int × Int)) : isP (pE a n c) l = fun t => eV0.has t && !l.any (inS t) := by
  funext t
  unfold isP qK
  have h1 : ¬ (pE a n c).k = 1 := fun h => absurd (show (2 : Int) = 1 from h) (by decide)
  rw [if_neg h1, if_pos (show (pE a n c).k = 2 from rfl)]
  rfl
theorem fin_of {p : Pl} {l : List (Int × Int)} {ts : List Int} (h : plE p l = 0) : finE p l ts = timesR ts := by unfold finE; rw [if_pos h]
theorem next_pD : nxQ pD [] 0 = some 86400 := by
  unfold nxQ
  rw [if_pos (by rw [fin_of plE_pD]; decide), nxP_fr]
  refine frP_some.2 ⟨⟨by decide, by decide, isP_yes (by rw [qK_pD]; exact At_dX_yes) rfl⟩, fun m m1 m2 => isP_no (by rw [qK_pD]; exact At_dX_no (by omega) m2)⟩
theorem list_pE (a : Option Addr) (n c : Nat) : lsQ (pE a n c) [(60, 80)] 0 1000 9 = [10, 130] := by
  unfold lsQ
  rw [if_pos (by rw [fin_of (plE_pE a n c spE_60)]; decide), isP_pE]
  decide +kernel
theorem count_pE (a : Option Addr) (n c : Nat) : ctQ (pE a n c) [(60, 80)] 0 1000 = 2 := by
  unfold ctQ
  rw [if_pos (by rw [fin_of (plE_pE a n c spE_60)]; decide), isP_pE]
  decide +kernel
theorem dueE_wk (a : Option Addr) (n c : Nat) : dueE [(pD, []), (pE none 0 0, []), (pE a n c, [(60, 80)])] 130 = 0 := by
  unfold dueE
  rw [if_neg (by simp)]
  simp only [List.any_cons, List.any_nil, plE_pD, plE_pE none 0 0 (show spE [] = 0 from rfl), plE_pE a n c spE_60]
  decide
theorem due_wkV (a : Option Addr) (n c : Nat) : dueV [(pD, []), (pE none 0 0, []), (pE a n c, [(60, 80)])] 130 = [1, 2] := by
  unfold dueV
  rw [if_pos (dueE_wk a n c)]
  have e1 : isP pD [] 130 = false := isP_no (by rw [qK_pD]; exact At_dX_no (by decide) (by decide))
  have e2 : isP (pE none 0 0) [] 130 = true := by rw [isP_pE]; decide +kernel
  have e3 : isP (pE a n c) [(60, 80)] 130 = true := by rw [isP_pE]; decide +kernel
  simp only [dueA, e1, e2, e3]
  rfl
end Go.Proofs.YtmdjfjdlehdhjaaGreatDoor.BW
namespace Go.Proofs.YtmdjfjdlehdhjaaGreatDoor.BW
open Go.RowKit BM Go.Shelf MC RK
open BK hiding ret_bool ret_i64

set_option maxHeartbeats 1000000 in
theorem ever_lk (a : Option Addr) (n c : Nat) (w : World) : Calls Tryz.prog 13 #[.slice a n c] w fun e w' => e = .returned (.agg (plV (pE a n c))) ∧ Below w.heap.size w w' := by
  rw [plV_pE]
  go_enter Tryz.func13, Tryz.ntmps13
  go_wp2
  (try simp only [Exit.inBlock, Exit.then])
  refine bodyPost_ret (results_cell_row rfl _ _ w.heap.size _ _ (0, 0) _ rfl (Blk.new w _ _) Tryz.underlying29 rfl (by kernel_rfl)) rfl ?_
  exact ⟨rfl, (Below.refl _ w).alloc (Nat.le_refl _) _⟩
set_option maxHeartbeats 1000000 in
theorem daily_lk (w : World) : Calls Tryz.prog 16 #[] w fun e w' => e = .returned (.agg (plV pD)) ∧ Below w.heap.size w w' := by
  rw [plV_pD]
  go_enter Tryz.func16, Tryz.ntmps16
  go_wp2
  (try simp only [Exit.inBlock, Exit.then])
  refine bodyPost_ret (results_cell_row rfl _ _ w.heap.size _ _ (0, 0) _ rfl (Blk.new w _ _) Tryz.underlying29 rfl (by kernel_rfl)) rfl ?_
  exact ⟨rfl, (Below.refl _ w).alloc (Nat.le_refl _) _⟩
theorem OwnsJ.shape {B : Nat} {v : Value} {ys : List Int} {w : World} (h : OwnsJ B v ys w) : ∃ a cap, v = .slice a ys.length cap ∧ IntsAt w a ys := by
  obtain ⟨hl, h⟩ := h
  rcases h with ⟨rfl, h0⟩ | ⟨g, cap, cur, rfl, hb, hg, hn, hc, hs, ht⟩
  · have : ys = [] := List.eq_nil_of_length_eq_zero h0
    subst this
    exact ⟨none, 0, rfl, fun k hk => by simp at hk⟩
  · refine ⟨_, cap, rfl, fun k hk => ⟨g, 0, rfl, ?_⟩⟩
    have h1 : (ys.map tcell)[k]? = some (tcell ys[k]) := by simp [hk]
    rw [← ht, List.getElem?_take] at h1
    simp only [Nat.mul_one, hk, if_true] at h1
    have h2 : cur[k]? = some (tcell ys[k]) := by simpa using h1
    simp only [World.cell?, hg, Nat.zero_add, Option.isSome_none, Bool.false_eq_true, if_false, h2]
    rfl
set_option maxRecDepth 8000 in
set_option maxHeartbeats 2000000 in
theorem ints_lk (a b : Option Addr) (ys : List Int) (n c d : Nat) (hn : ys.length = n) (hn9 : n ≤ 200000) (w : World) (ha : IntsAt w a ys) (hb : IntsAt w b ys) :
    Calls Tryz.prog 47 #[.slice a n c, .slice b n d] w fun e w' => e = .returned (.bool true) ∧ Below w.heap.size w w' := by
  have HA := Lib.hid ha
  have HB := Lib.hid hb
  have HN := Lib.hid hn
  clear ha hb hn
  go_enter Tryz.func47, Tryz.ntmps47
  go_wp2_with fail
  go_loopw [5] (fun s5 wr => ∃ k : Nat, k ≤ n ∧ s5 = .int .i64 k ∧ Below w.heap.size w wr) (fun s5 _ => n - intM s5)
  case atStart => exact ⟨0, by omega, rfl, Below.refl _ _⟩
  case round =>
    obtain ⟨k, hk, rfl, hbl⟩ := hrel
    rcases Nat.lt_or_ge k n with hlt | hge
    · obtain ⟨b1, o1, rfl, h1⟩ := (HA.out) k (by have := HN.out; omega)
      obtain ⟨b2, o2, rfl, h2⟩ := (HB.out) k (by have := HN.out; omega)
      have k1 := cell_regrown ((hbl.cell (p := ⟨b1, o1 + k, none⟩) (World.block_lt_of_cell? w _ h1)).trans h1)
      have k2 := cell_regrown ((hbl.cell (p := ⟨b2, o2 + k, none⟩) (World.block_lt_of_cell? w _ h2)).trans h2)
      clear h1 h2
      generalize ys[k]'(by have := HN.out; omega) = v at *
      have hq : (v != v) = false := by simp
      have hw : IntKind.i64.wrap ((k : Int) + 1) = (k : Int) + 1 := IntWalk.i64_in _ (by omega)
      go_wp2_with fail
      refine wp_region_quiet_below (by kernel_rfl) (by kernel_rfl) ?_
      repeat (go_big_quiet_step (fail))
      refine wpQuiet_nil ?_
      intro _ hw'
      obtain ⟨⟨dq, osq⟩, hw''⟩ := hw'
      subst hw''
      go_wp2_with fail
      refine ⟨⟨k + 1, by omega, by go_num, hbl.trans ((below_regrown wr dq osq).mono hbl.size)⟩, ?_⟩
      simp [intM]; omega
    · obtain rfl : k = n := by omega
      go_wp2_with fail
      go_ret
      exact ⟨rfl, hbl⟩
theorem ints_two (W : World) (a b : Int) (T : TypeId) : IntsAt (W.alloc (.cells #[.int .i64 a, .int .i64 b] T)) (some ⟨W.heap.size, 0, none⟩) [a, b] := fun k hk => by
  have hn := Blk.new W T #[.int .i64 a, .int .i64 b]
  have hk' : k = 0 ∨ k = 1 := by simp at hk; omega
  rcases hk' with rfl | rfl
  · exact ⟨_, _, rfl, hn.cell 0⟩
  · exact ⟨_, _, rfl, hn.cell 1⟩
/-- What works has in its blocks. -/
structure WkI (w : World) (b : Nat) (W : World) : Prop where
  xb : Blk W b 29 (plV (pE (some ⟨w.heap.size, 0, none⟩) 1 1))
  sp : SpansAt W (some ⟨w.heap.size, 0, none⟩) [(60, 80)]
  st : SpTab W
  tab : Tab W
  below : Below w.heap.size w W
theorem WkI.next {w : World} {b : Nat} {X Y : World} (h : WkI w b X) (hb : Below X.heap.size X Y) : WkI w b Y :=
  ⟨h.xb.below hb h.xb.lt, h.sp.below hb, h.st.below hb, tab_below h.tab hb (World.block_lt_of_cell? X _ (h.tab 0 (by decide))), h.below.trans (hb.mono h.below.size)⟩
theorem WkI.drew {w : World} {b : Nat} {X : World} (h : WkI w b X) : WkI w b X.drew := h.next (below_drewN (Below.refl _ _) 1)
theorem WkI.cells {w : World} {b : Nat} {W : World} (h : WkI w b W) : W.cell? ⟨b, 0, none⟩ = some (.int .i64 2) ∧ W.cell? ⟨b, 1, none⟩ = some (.int .u64 0) ∧ W.cell? ⟨b, 2, none⟩ = some (.int .u64 0) ∧ W.cell? ⟨b, 3, none⟩ = some (.int .u64 0) ∧ W.cell? ⟨b, 4, none⟩ = some (.int .u64 0) ∧ W.cell? ⟨b, 5, none⟩ = some (.int .u64 0) ∧ W.cell? ⟨b, 6, none⟩ = some (.int .u64 0) ∧ W.cell? ⟨b, 7, none⟩ = some (.bool false) ∧ W.cell? ⟨b, 8, none⟩ = some (.bool false) ∧ W.cell? ⟨b, 9, none⟩ = some (.int .i64 0) ∧ W.cell? ⟨b, 10, none⟩ = some (.int .i64 10) ∧ W.cell? ⟨b, 11, none⟩ = some (.int .i64 60) ∧ W.cell? ⟨b, 12, none⟩ = some (.int .i64 3) ∧ W.cell? ⟨b, 13, none⟩ = some (.slice (some ⟨w.heap.size, 0, none⟩) 1 1) :=
  ⟨h.xb.cell 0, h.xb.cell 1, h.xb.cell 2, h.xb.cell 3, h.xb.cell 4, h.xb.cell 5, h.xb.cell 6, h.xb.cell 7, h.xb.cell 8, h.xb.cell 9, h.xb.cell 10, h.xb.cell 11, h.xb.cell 12, h.xb.cell 13⟩
theorem WkI.arg {w : World} {b : Nat} {W : World} (h : WkI w b W) : PArg W (pE (some ⟨w.heap.size, 0, none⟩) 1 1) [(60, 80)] := ⟨u64_zX, rfl, show 1 < 9223372036854775807 by decide, h.sp, h.st, h.tab⟩
theorem argD {W : World} (h1 : SpTab W) (h2 : Tab W) : PArg W pD [] := ⟨u64_dX, rfl, by decide, SpansAt.nil _ _, h1, h2⟩
theorem argE {W : World} (h1 : SpTab W) (h2 : Tab W) : PArg W (pE none 0 0) [] := ⟨u64_zX, rfl, by decide, SpansAt.nil _ _, h1, h2⟩
theorem due_wk (w : World) (b : Nat) (W : World) (h : WkI w b W) : Calls Tryz.prog 17 #[.slice (some ⟨W.heap.size, 0, none⟩) 3 3, .int .i64 130] (W.alloc (.cells #[.int .i64 1, .int .u64 1, .int .u64 1, .int .u64 1, .int .u64 4294967294, .int .u64 8190, .int .u64 127, .bool true, .bool true, .int .i64 0, .int .i64 0, .int .i64 0, .int .i64 0, .slice none 0 0, .int .i64 2, .int .u64 0, .int .u64 0, .int .u64 0, .int .u64 0, .int .u64 0, .int .u64 0, .bool false, .bool false, .int .i64 0, .int .i64 10, .int .i64 60, .int .i64 3, .slice none 0 0, .int .i64 2, .int .u64 0, .int .u64 0, .int .u64 0, .int .u64 0, .int .u64 0, .int .u64 0, .bool false, .bool false, .int .i64 0, .int .i64 10, .int .i64 60, .int .i64 3, .slice (some ⟨w.heap.size, 0, none⟩) 1 1] 29)) fun r w' => ∃ a cap, r = .returned (.tuple #[.slice a 2 cap, .int .i64 0]) ∧ IntsAt w' a [1, 2] ∧ Below W.heap.size W w' := by
  have hB : Below W.heap.size W (W.alloc (.cells #[.int .i64 1, .int .u64 1, .int .u64 1, .int .u64 1, .int .u64 4294967294, .int .u64 8190, .int .u64 127, .bool true, .bool true, .int .i64 0, .int .i64 0, .int .i64 0, .int .i64 0, .slice none 0 0, .int .i64 2, .int .u64 0, .int .u64 0, .int .u64 0, .int .u64 0, .int .u64 0, .int .u64 0, .bool false, .bool false, .int .i64 0, .int .i64 10, .int .i64 60, .int .i64 3, .slice none 0 0, .int .i64 2, .int .u64 0, .int .u64 0, .int .u64 0, .int .u64 0, .int .u64 0, .int .u64 0, .bool false, .bool false, .int .i64 0, .int .i64 10, .int .i64 60, .int .i64 3, .slice (some ⟨w.heap.size, 0, none⟩) 1 1] 29)) := (Below.refl _ W).alloc (Nat.le_refl _) _
  have h2 := h.next hB
  have hbk := Blk.new W 29 #[.int .i64 1, .int .u64 1, .int .u64 1, .int .u64 1, .int .u64 4294967294, .int .u64 8190, .int .u64 127, .bool true, .bool true, .int .i64 0, .int .i64 0, .int .i64 0, .int .i64 0, .slice none 0 0, .int .i64 2, .int .u64 0, .int .u64 0, .int .u64 0, .int .u64 0, .int .u64 0, .int .u64 0, .bool false, .bool false, .int .i64 0, .int .i64 10, .int .i64 60, .int .i64 3, .slice none 0 0, .int .i64 2, .int .u64 0, .int .u64 0, .int .u64 0, .int .u64 0, .int .u64 0, .int .u64 0, .bool false, .bool false, .int .i64 0, .int .i64 10, .int .i64 60, .int .i64 3, .slice (some ⟨w.heap.size, 0, none⟩) 1 1]
  refine (pldue_ok [(pD, []), (pE none 0 0, []), (pE (some ⟨w.heap.size, 0, none⟩) 1 1, [(60, 80)])] (some ⟨W.heap.size, 0, none⟩) 3 3 rfl (by decide) 130 _ (fun k hk => ?_)).mono ?_
  · refine ⟨W.heap.size, 0, rfl, fun i hi => ?_, ?_⟩
    · rw [hbk.cell]
      have hk' : k = 0 ∨ k = 1 ∨ k = 2 := by simp at hk; omega
      rcases hk' with rfl | rfl | rfl <;> (simp only [Nat.zero_add]; obtain rfl | rfl | rfl | rfl | rfl | rfl | rfl | rfl | rfl | rfl | rfl | rfl | rfl | rfl : i = 0 ∨ i = 1 ∨ i = 2 ∨ i = 3 ∨ i = 4 ∨ i = 5 ∨ i = 6 ∨ i = 7 ∨ i = 8 ∨ i = 9 ∨ i = 10 ∨ i = 11 ∨ i = 12 ∨ i = 13 := by omega) <;> rfl
    · have hk' : k = 0 ∨ k = 1 ∨ k = 2 := by simp at hk; omega
      rcases hk' with rfl | rfl | rfl
      · exact argD h2.st h2.tab
      · exact argE h2.st h2.tab
      · exact h2.arg
  · rintro e w' ⟨v, rfl, ho, hb⟩
    rw [dueE_wk]
    rw [due_wkV] at ho
    obtain ⟨a, cap, rfl, hi⟩ := ho.shape
    exact ⟨a, cap, rfl, hi, hB.trans (hb.mono hB.size)⟩
set_option maxRecDepth 8000 in
set_option maxHeartbeats 8000000 in
theorem plworks_ok (w : World) (hT : SpTab w) (hTab : Tab w) : Calls Tryz.prog 21 #[] w fun e w' => e = .returned (.bool true) ∧ Below w.heap.size w w' := by
  have hgt : 1 < w.heap.size := World.block_lt_of_cell? w _ (hTab 0 (by decide))
  have HT := Lib.hid (show ∀ W, Below w.heap.size w W → SpTab W ∧ Tab W from fun W hW => ⟨hT.below hW, tab_below hTab hW hgt⟩)
  have hb1 : Below w.heap.size w (w.alloc (.cells #[.int .i64 60, .int .i64 80] 32)) := (Below.refl _ w).alloc (Nat.le_refl _) _
  have hsp : SpansAt (w.alloc (.cells #[.int .i64 60, .int .i64 80] 32)) (some ⟨w.heap.size, 0, none⟩) [(60, 80)] := fun k hk => by
    have : k = 0 := by simpa using hk
    subst this
    have hn := Blk.new w 32 #[.int .i64 60, .int .i64 80]
    exact ⟨_, _, rfl, hn.cell 0, hn.cell 1⟩
  have HSP := Lib.hid hsp
  have HB1 := Lib.hid hb1
  have CE := Lib.hid (fun a n c W => ever_lk a n c W)
  have CD := Lib.hid (fun W => daily_lk W)
  rw [plV_pD] at CD
  have CE1 := Lib.hid (CE.out (some ⟨w.heap.size, 0, none⟩) 1 1)
  have CE0 := Lib.hid (CE.out none 0 0)
  rw [plV_pE] at CE1 CE0
  have CN := Lib.hid (fun W (h1 : SpTab W) (h2 : Tab W) => plnext_ok pD [] 0 W (argD h1 h2))
  rw [next_pD, fin_of plE_pD, show timesR [0] = 0 from rfl, plV_pD] at CN
  have CL := Lib.hid (fun b W (h : WkI w b W) => pllist_ok (pE (some ⟨w.heap.size, 0, none⟩) 1 1) [(60, 80)] 0 1000 9 (by decide) W h.arg)
  rw [list_pE, fin_of (plE_pE _ _ _ spE_60), show timesR [0, 1000] = 0 from rfl, plV_pE] at CL
  have CC := Lib.hid (fun b W (h : WkI w b W) => plcount_ok (pE (some ⟨w.heap.size, 0, none⟩) 1 1) [(60, 80)] 0 1000 W h.arg)
  rw [count_pE, fin_of (plE_pE _ _ _ spE_60), show timesR [0, 1000] = 0 from rfl, plV_pE] at CC
  clear hT hTab hgt hb1 hsp CE
  go_enter Tryz.func21, Tryz.ntmps21
  go_wp2_with fail
  refine (CE1.out _).mono ?_
  rintro e w1 ⟨rfl, hb⟩
  have HSP1 := Lib.hid (HSP.out.below hb)
  have HB2 := Lib.hid (HB1.out.trans (hb.mono HB1.out.size))
  clear hb
  go_wp2_with fail
  have hB3 := HB2.out.alloc HB2.out.size (.cells #[.int .i64 2, .int .u64 0, .int .u64 0, .int .u64 0, .int .u64 0, .int .u64 0, .int .u64 0, .bool false, .bool false, .int .i64 0, .int .i64 10, .int .i64 60, .int .i64 3, .slice (some ⟨w.heap.size, 0, none⟩) 1 1] 29)
  have HI := Lib.hid (show WkI w w1.heap.size (w1.alloc (.cells #[.int .i64 2, .int .u64 0, .int .u64 0, .int .u64 0, .int .u64 0, .int .u64 0, .int .u64 0, .bool false, .bool false, .int .i64 0, .int .i64 10, .int .i64 60, .int .i64 3, .slice (some ⟨w.heap.size, 0, none⟩) 1 1] 29)) from ⟨Blk.new w1 _ _, HSP1.out.below ((Below.refl _ w1).alloc (Nat.le_refl _) _), (HT.out _ hB3).1, (HT.out _ hB3).2, hB3⟩)
  refine (CD.out _).mono ?_
  rintro e w2 ⟨rfl, hb⟩
  have HI := Lib.hid (HI.out.next hb)
  clear hb hB3 HB2
  go_wp2_with fail
  refine (CN.out _ HI.out.st HI.out.tab).mono ?_
  rintro e w3 ⟨rfl, hb⟩
  have HI := Lib.hid (HI.out.next hb)
  obtain ⟨c0, c1, c2, c3, c4, c5, c6, c7, c8, c9, c10, c11, c12, c13⟩ := HI.out.cells
  clear hb
  simp only [optI, Option.getD_some, Option.isSome_some]
  go_wp2_with fail
  refine (CL.out _ _ HI.out).mono ?_
  rintro e w4 ⟨v, rfl, ho, hb⟩
  have HI := Lib.hid (HI.out.next hb)
  obtain ⟨al, capl, rfl, hil⟩ := ho.shape
  have HIL := Lib.hid hil
  clear hb ho hil c0 c1 c2 c3 c4 c5 c6 c7 c8 c9 c10 c11 c12 c13
  obtain ⟨c0, c1, c2, c3, c4, c5, c6, c7, c8, c9, c10, c11, c12, c13⟩ := HI.out.cells
  go_wp2_with fail
  refine (CC.out _ _ HI.out).mono ?_
  rintro e w5 ⟨rfl, hb⟩
  have HI := Lib.hid (HI.out.next hb)
  have HIL := Lib.hid (HIL.out.below hb)
  clear hb c0 c1 c2 c3 c4 c5 c6 c7 c8 c9 c10 c11 c12 c13
  obtain ⟨c0, c1, c2, c3, c4, c5, c6, c7, c8, c9, c10, c11, c12, c13⟩ := HI.out.cells
  go_wp2_with fail
  go_cut [9, 10] from 30 to 38 (fun s9 s10 wx => ∃ (a : Option Addr) (cap : Nat), s9 = .slice a 2 cap ∧ s10 = .int .i64 0 ∧ IntsAt wx a [1, 2] ∧ Below w5.heap.size w5 wx)
  case first =>
    have HI := Lib.hid HI.out.drew
    have HBL := Lib.hid (below_drewN (Below.refl w5.heap.size w5) 1)
    have hl0 := HI.out.xb.lt
    have hl : w1.heap.size < w5.heap.size := hl0
    clear hl0
    go_region_held3 (fun w' => w'.cell? ⟨w1.heap.size, 0, none⟩ = some (.int .i64 2) ∧ w'.cell? ⟨w1.heap.size, 1, none⟩ = some (.int .u64 0) ∧ w'.cell? ⟨w1.heap.size, 2, none⟩ = some (.int .u64 0) ∧ w'.cell? ⟨w1.heap.size, 3, none⟩ = some (.int .u64 0) ∧ w'.cell? ⟨w1.heap.size, 4, none⟩ = some (.int .u64 0) ∧ w'.cell? ⟨w1.heap.size, 5, none⟩ = some (.int .u64 0) ∧ w'.cell? ⟨w1.heap.size, 6, none⟩ = some (.int .u64 0) ∧ w'.cell? ⟨w1.heap.size, 7, none⟩ = some (.bool false) ∧ w'.cell? ⟨w1.heap.size, 8, none⟩ = some (.bool false) ∧ w'.cell? ⟨w1.heap.size, 9, none⟩ = some (.int .i64 0) ∧ w'.cell? ⟨w1.heap.size, 10, none⟩ = some (.int .i64 10) ∧ w'.cell? ⟨w1.heap.size, 11, none⟩ = some (.int .i64 60) ∧ w'.cell? ⟨w1.heap.size, 12, none⟩ = some (.int .i64 3) ∧ w'.cell? ⟨w1.heap.size, 13, none⟩ = some (.slice (some ⟨w.heap.size, 0, none⟩) 1 1)) (go_keep)
      (first
        | (go_at_call 16; with_reducible refine (CD.out _).mono ?_; rintro _ w6 ⟨rfl, hb⟩; have HI := Lib.hid (HI.out.next hb); have HBL := Lib.hid (HBL.out.trans (hb.mono HBL.out.size)); have hl := HI.out.xb.lt; obtain ⟨c0, c1, c2, c3, c4, c5, c6, c7, c8, c9, c10, c11, c12, c13⟩ := HI.out.cells; clear hb)
        | (go_at_call 13; with_reducible refine (CE0.out _).mono ?_; rintro _ w7 ⟨rfl, hb⟩; have HI := Lib.hid (HI.out.next hb); have HBL := Lib.hid (HBL.out.trans (hb.mono HBL.out.size)); have hl := HI.out.xb.lt; obtain ⟨c0, c1, c2, c3, c4, c5, c6, c7, c8, c9, c10, c11, c12, c13⟩ := HI.out.cells; clear hb)
        | (go_at_call 17; with_reducible refine (due_wk _ _ _ HI.out).mono ?_; rintro _ w8 ⟨ad, capd, rfl, hia, hb⟩; have HI := Lib.hid (HI.out.next hb); have HBL := Lib.hid (HBL.out.trans (hb.mono HBL.out.size)); have HIA := Lib.hid hia; have hl := HI.out.xb.lt; obtain ⟨c0, c1, c2, c3, c4, c5, c6, c7, c8, c9, c10, c11, c12, c13⟩ := HI.out.cells; clear hb hia))
    all_goals
      go_wp2_with fail
      go_meet
      exact ⟨_, _, rfl, rfl, HIA.out, HBL.out⟩
  case rest =>
    obtain ⟨ad, capd, rfl, rfl, hia, hb⟩ := hcut
    have HI := Lib.hid (HI.out.next hb)
    have HIL := Lib.hid (HIL.out.below hb)
    have HIA := Lib.hid hia
    clear hb hia c0 c1 c2 c3 c4 c5 c6 c7 c8 c9 c10 c11 c12 c13
    have SM := Lib.hid (fun b m W (ha : IntsAt W al [10, 130]) (h2 : IntsAt W b [10, 130]) => same_ok al b [10, 130] 2 capl m rfl (by decide) W ha h2)
    have IM := Lib.hid (fun b m W (ha : IntsAt W ad [1, 2]) (h2 : IntsAt W b [1, 2]) => ints_lk ad b [1, 2] 2 capd m rfl (by decide) W ha h2)
    go_wp2_with fail
    refine (SM.out _ _ _ (IntsAt.below HIL.out ((Below.refl _ _).alloc (Nat.le_refl _) _)) (ints_two _ _ _ _)).mono ?_
    rintro e w6 ⟨rfl, hb⟩
    have HB6 := Lib.hid ((HI.out.below.alloc HI.out.below.size _).trans (hb.mono (HI.out.below.alloc HI.out.below.size _).size))
    have HIA := Lib.hid ((IntsAt.below HIA.out ((Below.refl _ _).alloc (Nat.le_refl _) _)).below hb)
    clear hb
    go_wp2_with fail
    refine (IM.out _ _ _ (IntsAt.below HIA.out ((Below.refl _ _).alloc (Nat.le_refl _) _)) (ints_two _ _ _ _)).mono ?_
    rintro e w7 ⟨rfl, hb⟩
    have HB7 := Lib.hid ((HB6.out.alloc HB6.out.size _).trans (hb.mono (HB6.out.alloc HB6.out.size _).size))
    clear hb
    go_wp2_with fail
    go_ret
    exact ⟨rfl, HB7.out⟩
end Go.Proofs.YtmdjfjdlehdhjaaGreatDoor.BW
namespace Go.Proofs.YtmdjfjdlehdhjaaGreatDoor.BW
open Go.RowKit BM Go.Shelf MC RK
open BK hiding ret_bool ret_i64

/-- A plan in its box. -/
structure PBx (w : World) (p : Pl) (l : List (Int × Int)) (W : World) : Prop where
  xb : Blk W w.heap.size 29 (plV p)
  arg : PArg W p l
  below : Below w.heap.size w W
theorem PBx.next {w : World} {p : Pl} {l : List (Int × Int)} {X Y : World} (h : PBx w p l X) (hb : Below X.heap.size X Y) : PBx w p l Y :=
  ⟨h.xb.below hb h.xb.lt, h.arg.below hb, h.below.trans (hb.mono h.below.size)⟩
theorem PBx.cells {w : World} {p : Pl} {l : List (Int × Int)} {W : World} (h : PBx w p l W) : W.cell? ⟨w.heap.size, 0, none⟩ = some (.int .i64 p.k) ∧ W.cell? ⟨w.heap.size, 1, none⟩ = some (.int .u64 p.x.s) ∧ W.cell? ⟨w.heap.size, 2, none⟩ = some (.int .u64 p.x.mi) ∧ W.cell? ⟨w.heap.size, 3, none⟩ = some (.int .u64 p.x.h) ∧ W.cell? ⟨w.heap.size, 4, none⟩ = some (.int .u64 p.x.d) ∧ W.cell? ⟨w.heap.size, 5, none⟩ = some (.int .u64 p.x.mo) ∧ W.cell? ⟨w.heap.size, 6, none⟩ = some (.int .u64 p.x.w) ∧ W.cell? ⟨w.heap.size, 7, none⟩ = some (.bool p.x.ad) ∧ W.cell? ⟨w.heap.size, 8, none⟩ = some (.bool p.x.aw) ∧ W.cell? ⟨w.heap.size, 9, none⟩ = some (.int .i64 p.z) ∧ W.cell? ⟨w.heap.size, 10, none⟩ = some (.int .i64 p.e.s) ∧ W.cell? ⟨w.heap.size, 11, none⟩ = some (.int .i64 p.e.p) ∧ W.cell? ⟨w.heap.size, 12, none⟩ = some (.int .i64 p.e.c) ∧ W.cell? ⟨w.heap.size, 13, none⟩ = some (.slice p.a p.n p.c) :=
  ⟨h.xb.cell 0, h.xb.cell 1, h.xb.cell 2, h.xb.cell 3, h.xb.cell 4, h.xb.cell 5, h.xb.cell 6, h.xb.cell 7, h.xb.cell 8, h.xb.cell 9, h.xb.cell 10, h.xb.cell 11, h.xb.cell 12, h.xb.cell 13⟩
/-- A plan as it comes in. -/
structure PIn (w : World) (p : Pl) (l : List (Int × Int)) : Prop where
  x : U64s p.x
  n : l.length = p.n
  at_ : SpansAt w p.a l
theorem PIn.arg {w : World} {p : Pl} {l : List (Int × Int)} (h : PIn w p l) (hn : p.n ≤ 200) (hT : SpTab w) (hTab : Tab w) : PArg w p l := ⟨h.x, h.n, by omega, h.at_, hT, hTab⟩
end Go.Proofs.YtmdjfjdlehdhjaaGreatDoor.BW
