/- The earliest time of all plans: what it is. Walk of ConfigNearest. -/
import Derived.Test.YtmdjfjdlehdhjaaGreatDoorCWk
namespace Go.Proofs.YtmdjfjdlehdhjaaGreatDoor.BW
open Go.RowKit BM Go.Shelf MC RK
open BK hiding ret_bool ret_i64

theorem cdV_len (g : Gl) (L : JL) (t : Int) : (cdV g L t).length ≤ L.length := by
  unfold cdV
  split
  · have := dueA_len t (plansOf L) 0; rw [plansOf_len] at this; exact this
  · exact Nat.zero_le _
theorem cnL_len (g : Gl) (L : JL) (t : Int) : (cnL g L t).length ≤ L.length := by
  unfold cnL cnS
  split
  · rename_i h
    obtain ⟨h1, h2⟩ := cd_zero h
    exact (nxA_ok (plans_ok h1) h2 L.length (by rw [plansOf_len]; exact Nat.le_refl _)).len
  · exact Nat.zero_le _
/-- A law's configuration in its box. -/
structure LwC (w : World) (c : Cf) (L : JL) (W : World) : Prop where
  box : Blk W w.heap.size 56 (cfV c)
  arg : CArg W c L
  below : Below w.heap.size w W
theorem LwC.next {w : World} {c : Cf} {L : JL} {X Y : World} (h : LwC w c L X) (hb : Below X.heap.size X Y) : LwC w c L Y := ⟨h.box.below hb h.box.lt, h.arg.below hb, h.below.trans (hb.mono h.below.size)⟩
theorem LwC.cells {w : World} {c : Cf} {L : JL} {W : World} (h : LwC w c L W) : W.cell? ⟨w.heap.size, 0, none⟩ = some (.int .i64 c.g.cap) ∧ W.cell? ⟨w.heap.size, 1, none⟩ = some (.int .i64 c.g.q) ∧ W.cell? ⟨w.heap.size, 2, none⟩ = some (.int .i64 c.g.ar) ∧ W.cell? ⟨w.heap.size, 3, none⟩ = some (.int .i64 c.g.ag) ∧ W.cell? ⟨w.heap.size, 4, none⟩ = some (.int .u64 c.g.sd) ∧ W.cell? ⟨w.heap.size, 5, none⟩ = some (.int .i64 c.g.t) ∧ W.cell? ⟨w.heap.size, 6, none⟩ = some (.int .i64 c.g.tau) ∧ W.cell? ⟨w.heap.size, 7, none⟩ = some (.slice c.a c.n c.c) :=
  ⟨h.box.cell 0, h.box.cell 1, h.box.cell 2, h.box.cell 3, h.box.cell 4, h.box.cell 5, h.box.cell 6, h.box.cell 7⟩
/-- The plans whose next time is b. -/
noncomputable def nxI (t b : Int) : List (Pl × List (Int × Int)) → Nat → List Int
  | [], _ => []
  | x :: P, i => if nxQ x.1 x.2 t = some b then (i : Int) :: nxI t b P (i + 1) else nxI t b P (i + 1)
theorem nxI_snoc (t b : Int) (x : Pl × List (Int × Int)) : ∀ (P : List (Pl × List (Int × Int))) (i : Nat), nxI t b (P ++ [x]) i = nxI t b P i ++ (if nxQ x.1 x.2 t = some b then [((i + P.length : Nat) : Int)] else []) := by
  intro P
  induction P with
  | nil => intro i; simp only [List.nil_append, nxI, List.length_nil, Nat.add_zero]
  | cons y P ih =>
    intro i
    simp only [List.cons_append, nxI, ih (i + 1), List.length_cons]
    rw [show i + 1 + P.length = i + (P.length + 1) by omega]
    split <;> simp
theorem nxI_none {t b : Int} {P : List (Pl × List (Int × Int))} (h : ∀ x ∈ P, nxQ x.1 x.2 t ≠ some b) : ∀ i, nxI t b P i = [] := by
  induction P with
  | nil => intro i; rfl
  | cons y P ih =>
    intro i
    simp only [nxI]
    rw [if_neg (h y (by simp)), ih (fun x hx => h x (by simp [hx]))]
theorem nxI_drop (t b : Int) (P : List (Pl × List (Int × Int))) (k : Nat) (hk : k < P.length) : nxI t b (P.drop k) k = if nxQ P[k].1 P[k].2 t = some b then (k : Int) :: nxI t b (P.drop (k + 1)) (k + 1) else nxI t b (P.drop (k + 1)) (k + 1) := by
  rw [List.drop_eq_getElem_cons hk]; rfl
/-- What the state says of the plans seen so far. -/
structure NxInv (t : Int) (Q : List (Pl × List (Int × Int))) (s : Option Int × List Int) : Prop where
  none : s.1 = none → ∀ x ∈ Q, nxQ x.1 x.2 t = none
  low : ∀ b, s.1 = some b → ∀ x ∈ Q, ∀ m, nxQ x.1 x.2 t = some m → b ≤ m
  ids : ∀ b, s.1 = some b → s.2 = nxI t b Q 0
  some_ : ∀ b, s.1 = some b → s.2 ≠ []
theorem NxInv.step {t : Int} {Q : List (Pl × List (Int × Int))} {s : Option Int × List Int} (h : NxInv t Q s) (x : Pl × List (Int × Int)) : NxInv t (Q ++ [x]) (nxStep s (Q.length : Int) (nxQ x.1 x.2 t)) := by
  cases hx : nxQ x.1 x.2 t with
  | none =>
    rw [nxStep_none]
    refine ⟨fun h0 y hy => ?_, fun b hb y hy m hm => ?_, fun b hb => ?_, h.some_⟩
    · rcases List.mem_append.1 hy with hy | hy
      · exact h.none h0 y hy
      · simp at hy; subst hy; exact hx
    · rcases List.mem_append.1 hy with hy | hy
      · exact h.low b hb y hy m hm
      · simp at hy; subst hy; rw [hx] at hm; cases hm
    · rw [nxI_snoc, hx, if_neg (by simp), List.append_nil]; exact h.ids b hb
  | some m =>
    have hnew : (∀ y ∈ Q, ∀ m', nxQ y.1 y.2 t = some m' → m < m') → NxInv t (Q ++ [x]) (some m, [(Q.length : Int)]) := fun hl => by
      refine ⟨fun h0 => (by cases h0), fun b hb y hy m' hm' => ?_, fun b hb => ?_, fun b hb => by simp⟩
      · injection hb with hb
        subst hb
        rcases List.mem_append.1 hy with hy | hy
        · exact Int.le_of_lt (hl y hy m' hm')
        · simp at hy; subst hy; rw [hx] at hm'; injection hm' with hm'; omega
      · injection hb with hb
        subst hb
        rw [nxI_snoc, hx, if_pos rfl, nxI_none (fun y hy hh => by have := hl y hy m hh; omega)]
        simp
    cases hs : s.1 with
    | none =>
      rw [nxStep_first s _ m hs]
      exact hnew (fun y hy m' hm' => by rw [h.none hs y hy] at hm'; cases hm')
    | some b =>
      by_cases hb : b < m
      · rw [nxStep_late s _ m b hs hb]
        refine ⟨fun h0 => (by rw [hs] at h0; cases h0), fun b' hb' y hy m' hm' => ?_, fun b' hb' => ?_, h.some_⟩
        · rw [hs] at hb'; injection hb' with hb'; subst hb'
          rcases List.mem_append.1 hy with hy | hy
          · exact h.low b hs y hy m' hm'
          · simp at hy; subst hy; rw [hx] at hm'; injection hm' with hm'; omega
        · rw [hs] at hb'; injection hb' with hb'; subst hb'
          rw [nxI_snoc, hx, if_neg (by intro hh; injection hh with hh; omega), List.append_nil]
          exact h.ids b hs
      · by_cases he : m = b
        · subst he
          rw [nxStep_same s _ m hs]
          refine ⟨fun h0 => (by cases h0), fun b' hb' y hy m' hm' => ?_, fun b' hb' => ?_, fun b' hb' => by simp⟩
          · injection hb' with hb'; subst hb'
            rcases List.mem_append.1 hy with hy | hy
            · exact h.low m hs y hy m' hm'
            · simp at hy; subst hy; rw [hx] at hm'; injection hm' with hm'; omega
          · injection hb' with hb'; subst hb'
            rw [nxI_snoc, hx, if_pos rfl, ← h.ids m hs]
            simp
        · rw [nxStep_new s _ m b hs (by omega)]
          exact hnew (fun y hy m' hm' => by have := h.low b hs y hy m' hm'; omega)
theorem nxA_I (t : Int) (P : List (Pl × List (Int × Int))) : ∀ k, k ≤ P.length → NxInv t (P.take k) (nxA t P k)
  | 0, _ => ⟨fun _ x hx => (by simp at hx), fun b hb => (by cases hb), fun b hb => (by cases hb), fun b hb => (by cases hb)⟩
  | k + 1, hk => by
    have hkl : k < P.length := by omega
    have hx : P[k]? = some (P[k].1, P[k].2) := List.getElem?_eq_getElem hkl
    have := (nxA_I t P k (by omega)).step P[k]
    rw [List.length_take, Nat.min_eq_left (by omega)] at this
    rw [nxA_succ hx, List.take_succ_eq_append_getElem hkl]
    exact this
/-- The plans that have the earliest time are those whose next time it is. -/
theorem due_next {t b : Int} {P : List (Pl × List (Int × Int))} (hP : ∀ x ∈ P, plE x.1 x.2 = 0) (ht : 0 ≤ t ∧ t ≤ 253402300799) (hb : t < b ∧ b ≤ 253402300799) (hl : ∀ x ∈ P, ∀ m, nxQ x.1 x.2 t = some m → b ≤ m) : ∀ i, dueA b P i = nxI t b P i := by
  induction P with
  | nil => intro i; rfl
  | cons x P ih =>
    intro i
    have h1 := ih (fun y hy => hP y (by simp [hy])) (fun y hy => hl y (by simp [hy])) (i + 1)
    simp only [dueA, nxI, h1]
    have hx := hP x (by simp)
    have hiff : isP x.1 x.2 b = true ↔ nxQ x.1 x.2 t = some b := by
      constructor
      · intro hy
        rw [nxQ_ok (fin_one hx ht), nxP_fr]
        refine frP_some.2 ⟨⟨by omega, hb.2, hy⟩, fun m m1 m2 => ?_⟩
        cases hq : isP x.1 x.2 m with
        | false => rfl
        | true =>
          exfalso
          -- the first time from t on is at most m, below b
          cases hn : nxQ x.1 x.2 t with
          | none =>
            rw [nxQ_ok (fin_one hx ht), nxP_fr] at hn
            have := frP_none.1 hn m (by omega) (by omega)
            rw [hq] at this; cases this
          | some n =>
            have h2 := hl x (by simp) n hn
            rw [nxQ_ok (fin_one hx ht), nxP_fr] at hn
            obtain ⟨_, h3⟩ := frP_some.1 hn
            have := h3 m (by omega) (by omega)
            rw [hq] at this; cases this
      · intro hy
        exact (nxQ_range hx ht hy).2.2
    by_cases h : isP x.1 x.2 b = true
    · rw [if_pos h, if_pos (hiff.1 h)]
    · rw [if_neg h, if_neg (fun hh => h (hiff.2 hh))]
theorem plans_all {g : Gl} {L : JL} (h : CfOk g L) : ∀ x ∈ plansOf L, plE x.1 x.2 = 0 := fun x hx => by
  obtain ⟨k, hk, rfl⟩ := List.getElem_of_mem hx
  exact plans_ok h k _ _ (List.getElem?_eq_getElem hk)
set_option maxRecDepth 8000 in
set_option maxHeartbeats 16000000 in
theorem lcnear_ok (c : Cf) (L : JL) (t : Int) (w : World) (hp : CIn w c L ∧ c.n ≤ 9223372036854775807) (hT : SpTab w) (hTab : Tab w) : Calls Tryz.prog 5 #[.agg (cfV c), .int .i64 t] w fun e w' => e = .returned (.bool true) ∧ Below w.heap.size w w' := by
  obtain ⟨hI, hn9⟩ := hp
  obtain ⟨W1, hW1⟩ : ∃ W1, W1 = w.alloc (.cells (cfV c) 56) := ⟨_, rfl⟩
  have hB : Below w.heap.size w W1 := by rw [hW1]; exact (Below.refl _ w).alloc (Nat.le_refl _) _
  have hx : Blk W1 w.heap.size 56 (cfV c) := by rw [hW1]; exact Blk.new w _ _
  have HT := Lib.hid (show ∀ W, Below w.heap.size w W → SpTab W ∧ Tab W from fun W hW => ⟨hT.below hW, tab_below hTab hW (tab_lt hTab)⟩)
  have CF := Lib.hid (few_ok c L W1 (hI.below hB) hn9)
  have HX := Lib.hid (And.intro hB hx)
  have HIN := Lib.hid hI
  have CW := Lib.hid (fun W (hW : Below w.heap.size w W) => cwk_ok W (HT.out W hW).1 (HT.out W hW).2)
  have CNX := Lib.hid (fun W (h : CArg W c L) => cnext_ok c L t W h)
  have CDU := Lib.hid (fun n W (h : CArg W c L) => cdue_ok c L n W h)
  have HZ := Lib.hid (fun (h : cdE c.g L t = 0) => cd_zero h)
  have HCL : Hid ((plansOf L).length = c.n) := Lib.hid (by rw [plansOf_len]; exact hI.n)
  have HS : Hid (cdE c.g L t = 0 → cnS c.g L t = nxA t (plansOf L) c.n) := Lib.hid (fun h => by unfold cnS; rw [if_pos h, hI.n])
  have HF : Hid (cdE c.g L t ≠ 0 → cnS c.g L t = (none, [])) := Lib.hid (fun h => by unfold cnS; rw [if_neg h])
  have HDV : Hid (∀ n, cfE c.g L = 0 → 0 ≤ n ∧ n ≤ 253402300799 → cdE c.g L n = 0 ∧ cdV c.g L n = dueA n (plansOf L) 0) := Lib.hid (fun n h hn => by
    have h1 : cdE c.g L n = 0 := by unfold cdE; rw [if_pos h, if_pos (by unfold vT; simp; omega)]
    exact ⟨h1, by unfold cdV; rw [if_pos h1]⟩)
  have HNI := Lib.hid (fun (h : c.n ≤ (plansOf L).length) => nxA_I t (plansOf L) c.n h)
  unfold cnT cnB cnL at CNX
  generalize hs0 : cnS c.g L t = s at *
  generalize cdE c.g L t = E at *
  obtain ⟨s1, s2⟩ := s
  simp only at *
  have HW := Lib.hid hW1
  rw [hW1] at CF
  rw [cfV_eq] at CF CNX CDU ⊢
  clear hW1 hB hx hI hT hTab hs0
  go_enter Tryz.func5, Tryz.ntmps5
  go_wp2_with fail
  refine (CF.out).mono ?_
  rintro e w2 (⟨rfl, hb⟩ | ⟨rfl, hf, hb⟩)
  · have hb : Below W1.heap.size W1 w2 := by rw [HW.out, cfV_eq]; exact hb
    have HB2 := Lib.hid (HX.out.1.trans (hb.mono HX.out.1.size))
    clear hb
    go_wp2_with fail
    refine (CW.out _ HB2.out).mono ?_
    rintro e w3 ⟨rfl, hb⟩
    have HB3 := Lib.hid (HB2.out.trans (hb.mono HB2.out.size))
    clear hb
    go_wp2_with fail
    go_ret
    exact ⟨rfl, HB3.out⟩
  · have hb : Below W1.heap.size W1 w2 := by rw [HW.out, cfV_eq]; exact hb
    have hb2 := HX.out.1.trans (hb.mono HX.out.1.size)
    have HI := Lib.hid (show LwC w c L w2 from ⟨HX.out.2.below hb HX.out.2.lt, hf.arg (HIN.out.below hb2) (HT.out _ hb2).1 (HT.out _ hb2).2, hb2⟩)
    have HFEW := Lib.hid hf
    obtain ⟨c0, c1, c2, c3, c4, c5, c6, c7⟩ := HI.out.cells
    clear hb hb2 hf
    by_cases hE : E = 0
    · subst hE
      obtain ⟨hok, ht0, ht9⟩ := HZ.out rfl
      have HOK := Lib.hid hok
      have HTT := Lib.hid (And.intro ht0 ht9)
      have hs := HS.out rfl
      have hni := HNI.out (by rw [HCL.out]; exact Nat.le_refl _)
      have hno := nxA_ok (t := t) (plans_ok hok) ⟨ht0, ht9⟩ c.n (by rw [HCL.out]; exact Nat.le_refl _)
      rw [← hs] at hni hno
      rw [List.take_of_length_le (by rw [HCL.out]; exact Nat.le_refl _)] at hni
      have HNI2 := Lib.hid hni
      have HNO := Lib.hid hno
      clear hs hni hno hok HS HF HZ HNI
      cases s1 with
      | none =>
        have hs2 : s2 = [] := HNO.out.none rfl
        subst hs2
        simp only [optI, Option.getD_none, Option.isSome_none] at CNX
        have HNN := Lib.hid (HNI2.out.none rfl)
        clear HNO HNI2 HDV CDU ht0 ht9
        go_wp2_with fail
        refine (CNX.out _ HI.out.arg).mono ?_
        rintro e w3 ⟨v, rfl, ho, hb⟩
        have HI := Lib.hid (HI.out.next hb)
        obtain ⟨a3, cap3, rfl, -⟩ := ho.shape
        clear hb ho c0 c1 c2 c3 c4 c5 c6 c7 CNX
        go_wp2_with fail
        go_loopw [9] (fun s9 wr => ∃ k : Nat, k ≤ c.n ∧ s9 = .int .i64 k ∧ LwC w c L wr) (fun s9 _ => c.n - intJ s9)
        case atStart => exact ⟨0, Nat.zero_le _, rfl, HI.out⟩
        case round =>
          clear HI
          obtain ⟨k, hk, rfl, hi⟩ := hrel
          have HI := Lib.hid hi
          have k7' : wr.cell? ⟨w.heap.size, 7, none⟩ = some (.slice c.a c.n c.c) := hi.box.cell 7
          rcases Nat.lt_or_ge k c.n with hlt | hge
          · obtain ⟨⟨j, l⟩, hjl⟩ : ∃ x, L[k]? = some x := ⟨_, List.getElem?_eq_getElem (by have := HIN.out.n; omega)⟩
            have hpj := plansOf_at hjl
            have hkp : k < (plansOf L).length := by rw [HCL.out]; exact hlt
            have hpg : (plansOf L)[k] = (j.p, l) := (List.getElem?_eq_some_iff.1 hpj).2
            have hnn := HNN.out _ (List.getElem_mem hkp)
            have hpe := okJ_pl HOK.out.all hjl
            have hpa := hi.arg.pls hkp
            rw [hpg] at hpa hnn
            simp only at hpa hnn
            obtain ⟨b, off, ha, hcl, -⟩ := hi.arg.in_.at_ k (List.getElem?_eq_some_iff.1 hjl).1
            rw [(List.getElem?_eq_some_iff.1 hjl).2] at hcl
            have LP := Lib.hid (JbAt.plan (show JbAt wr b (off + k * 30) j from hcl))
            have CX := Lib.hid (plnext_ok j.p l t wr hpa)
            rw [fin_one hpe HTT.out, hnn] at CX
            simp only [optI, Option.getD_none, Option.isSome_none] at CX
            have k7 : wr.cell? ⟨w.heap.size, 7, none⟩ = some (.slice (some ⟨b, off, none⟩) c.n c.c) := by rw [← ha]; exact hi.box.cell 7
            clear hcl ha hpa hpe hnn hpg hkp hpj hjl hi k7'
            go_wp2_with (refine wpList_load_by rfl 29 _ rfl b (off + k * 30 + 1) (.agg (plV j.p)) rfl LP.out ?_)
            refine (CX.out).mono ?_
            rintro e_ w5 ⟨rfl, hb⟩
            have HI5 := Lib.hid (HI.out.next hb)
            clear hb
            go_wp2_with fail
            refine ⟨⟨k + 1, by omega, by go_num, HI5.out⟩, ?_⟩
            simp [intJ]; omega
          · have hkn : k = c.n := by omega
            subst hkn
            clear hi
            go_wp2_with fail
            refine (CW.out _ HI.out.below).mono ?_
            rintro e w99 ⟨rfl, hb⟩
            have HB99 := Lib.hid (HI.out.below.trans (hb.mono HI.out.below.size))
            clear hb
            go_wp2_with fail
            go_ret
            exact ⟨rfl, HB99.out⟩
      | some bb =>
        obtain ⟨hb1, hb2⟩ := HNO.out.range bb rfl
        have hlow := HNI2.out.low bb rfl
        have hids := HNI2.out.ids bb rfl
        have hdn := due_next (plans_all HOK.out) HTT.out ⟨hb1, hb2⟩ hlow 0
        obtain ⟨hd1, hd2⟩ := HDV.out bb (cfE_zero.2 HOK.out) ⟨by omega, hb2⟩
        have CDU := Lib.hid (CDU.out bb)
        rw [hd1, hd2, hdn, ← hids] at CDU
        have HLOW := Lib.hid hlow
        have HIDS := Lib.hid hids
        have hne := HNI2.out.some_ bb rfl
        have hlen0 : 0 < s2.length := List.length_pos_iff.2 hne
        have hlen9 : s2.length ≤ 200 := by have := HNO.out.len; have := HFEW.out.1; simp only at *; omega
        simp only [optI, Option.getD_some, Option.isSome_some] at CNX
        have q0 : (bb == 0) = false := by rw [beq_eq_false_iff_ne]; omega
        have q1 : decide (bb ≤ t) = false := decide_eq_false (by omega)
        have HRG := Lib.hid (fun k (p : Pl) (l : List (Int × Int)) (m : Int) (hk : (plansOf L)[k]? = some (p, l)) (hm : nxQ p l t = some m) => hlow (p, l) (List.mem_of_getElem? hk) m hm)
        clear HNO HNI2 HDV hlow hids hdn hd1 hd2 hne hb1 hb2 ht0 ht9
        go_wp2_with fail
        refine (CNX.out _ HI.out.arg).mono ?_
        rintro e w3 ⟨v, rfl, ho, hb⟩
        have HI := Lib.hid (HI.out.next hb)
        obtain ⟨a3, cap3, rfl, hi3⟩ := ho.shape
        have H3 := Lib.hid hi3
        clear hb ho hi3 c0 c1 c2 c3 c4 c5 c6 c7 CNX
        obtain ⟨c0, c1, c2, c3, c4, c5, c6, c7⟩ := HI.out.cells
        go_wp2_with fail
        refine (CDU.out _ HI.out.arg).mono ?_
        rintro e w4 ⟨v, rfl, ho, hb⟩
        have HI := Lib.hid (HI.out.next hb)
        have H3 := Lib.hid (IntsAt.below H3.out hb)
        obtain ⟨a4, cap4, rfl, hi4⟩ := ho.shape
        have S1 := Lib.hid (ints16 a3 a4 s2 s2.length cap3 cap4 rfl (by omega) w4 H3.out hi4)
        obtain ⟨N, hN⟩ : ∃ N, N = s2.length := ⟨_, rfl⟩
        rw [← hN] at hlen0 hlen9 S1 ⊢
        have HN := Lib.hid hN
        have g1 : ((N : Int) == 0) = false := by rw [beq_eq_false_iff_ne]; omega
        have g2 : (N == 0) = false := by rw [beq_eq_false_iff_ne]; omega
        clear hb ho hi4 c0 c1 c2 c3 c4 c5 c6 c7 CDU hN
        go_wp2_with fail
        refine (S1.out).mono ?_
        rintro e w5 ⟨rfl, hb⟩
        have HI := Lib.hid (HI.out.next hb)
        have H3 := Lib.hid (IntsAt.below H3.out hb)
        clear hb
        go_wp2_with fail
        go_loopw [15, 16] (fun s15 s16 wr => ∃ (at_ k : Nat), k ≤ c.n ∧ at_ ≤ N ∧ s15 = .int .i64 at_ ∧ s16 = .int .i64 k ∧ LwC w c L wr ∧ IntsAt wr a3 s2 ∧ s2.drop at_ = nxI t bb ((plansOf L).drop k) k) (fun _ s16 _ => c.n - intJ s16)
        case atStart => exact ⟨0, 0, Nat.zero_le _, Nat.zero_le _, rfl, rfl, HI.out, H3.out, HIDS.out⟩
        case round =>
          clear HI H3 HIDS
          obtain ⟨at_, k, hk, hat, rfl, rfl, hi, h3, hd⟩ := hrel
          have HI := Lib.hid hi
          have H3 := Lib.hid h3
          have HD := Lib.hid hd
          rcases Nat.lt_or_ge k c.n with hlt | hge
          · obtain ⟨⟨j, l⟩, hjl⟩ : ∃ x, L[k]? = some x := ⟨_, List.getElem?_eq_getElem (by have := HIN.out.n; omega)⟩
            have hpj := plansOf_at hjl
            have hkp : k < (plansOf L).length := by rw [HCL.out]; exact hlt
            have hpg : (plansOf L)[k] = (j.p, l) := (List.getElem?_eq_some_iff.1 hpj).2
            have hpe := okJ_pl HOK.out.all hjl
            have hpa := hi.arg.pls hkp
            have hdr := nxI_drop t bb (plansOf L) k hkp
            rw [hpg] at hpa hdr
            simp only at hpa hdr
            have HDR := Lib.hid hdr
            have HLW := Lib.hid (fun m hm => HRG.out k j.p l m hpj hm)
            obtain ⟨b, off, ha, hcl, -⟩ := hi.arg.in_.at_ k (List.getElem?_eq_some_iff.1 hjl).1
            rw [(List.getElem?_eq_some_iff.1 hjl).2] at hcl
            have LP := Lib.hid (JbAt.plan (show JbAt wr b (off + k * 30) j from hcl))
            have CX := Lib.hid (plnext_ok j.p l t wr hpa)
            rw [fin_one hpe HTT.out] at CX
            have k7 : wr.cell? ⟨w.heap.size, 7, none⟩ = some (.slice (some ⟨b, off, none⟩) c.n c.c) := by rw [← ha]; exact hi.box.cell 7
            clear hcl ha hpa hpe hpg hkp hpj hjl hi h3 hd hdr
            generalize nxQ j.p l t = nq at *
            cases nq with
            | none =>
              have HE2 : Hid (s2.drop at_ = nxI t bb ((plansOf L).drop (k + 1)) (k + 1)) := Lib.hid (by rw [HD.out, HDR.out, if_neg (by simp)])
              simp only [optI, Option.getD_none, Option.isSome_none] at CX
              clear HD HDR HLW
              go_wp2_with (refine wpList_load_by rfl 29 _ rfl b (off + k * 30 + 1) (.agg (plV j.p)) rfl LP.out ?_)
              refine (CX.out).mono ?_
              rintro e_ w6 ⟨rfl, hb⟩
              have HI6 := Lib.hid (HI.out.next hb)
              have H36 := Lib.hid (IntsAt.below H3.out hb)
              clear hb
              go_wp2_with fail
              refine ⟨⟨at_, k + 1, by omega, hat, rfl, by go_num, HI6.out, H36.out, HE2.out⟩, ?_⟩
              simp [intJ]; omega
            | some m =>
              have hm := HLW.out m rfl
              have d1 : decide (m < bb) = false := decide_eq_false (by omega)
              simp only [optI, Option.getD_some, Option.isSome_some] at CX
              by_cases hmb : m = bb
              · subst hmb
                have d2 : (m == m) = true := by simp
                have hcons : s2.drop at_ = (k : Int) :: nxI t m ((plansOf L).drop (k + 1)) (k + 1) := by rw [HD.out, HDR.out, if_pos rfl]
                have hal : at_ < s2.length := by
                  rcases Nat.lt_or_ge at_ s2.length with h | h
                  · exact h
                  · rw [List.drop_eq_nil_of_le h] at hcons; cases hcons
                have hget : s2[at_] = (k : Int) := by
                  rw [List.drop_eq_getElem_cons hal] at hcons
                  exact (List.cons.inj hcons).1
                have HE2 : Hid (s2.drop (at_ + 1) = nxI t m ((plansOf L).drop (k + 1)) (k + 1)) := Lib.hid (by
                  rw [List.drop_eq_getElem_cons hal] at hcons
                  exact (List.cons.inj hcons).2)
                have haN : at_ < N := by have := HN.out; omega
                have HG := Lib.hid (And.intro hal (List.getElem?_eq_some_iff.2 ⟨hal, hget⟩))
                clear HD HDR HLW hcons hget hal hm
                go_wp2_with (refine wpList_load_by rfl 29 _ rfl b (off + k * 30 + 1) (.agg (plV j.p)) rfl LP.out ?_)
                refine (CX.out).mono ?_
                rintro e_ w6 ⟨rfl, hb⟩
                have HI6 := Lib.hid (HI.out.next hb)
                have H36 := Lib.hid (IntsAt.below H3.out hb)
                clear hb
                obtain ⟨b1, o1, hab1, hc1⟩ := H36.out at_ HG.out.1
                rw [(List.getElem?_eq_some_iff.1 HG.out.2).2] at hc1
                have d5 : decide (N ≤ at_) = false := decide_eq_false (by omega)
                have d6 : decide ((N : Int) ≤ at_) = false := decide_eq_false (by omega)
                have d7 : ((k : Int) != k) = false := by simp
                subst hab1
                go_wp2_with fail
                refine ⟨⟨at_ + 1, k + 1, by omega, by omega, by go_num, by go_num, HI6.out, H36.out, HE2.out⟩, ?_⟩
                simp [intJ]; omega
              · have d2 : (m == bb) = false := by simpa using hmb
                have d3 : decide (m = bb) = false := decide_eq_false hmb
                have HE2 : Hid (s2.drop at_ = nxI t bb ((plansOf L).drop (k + 1)) (k + 1)) := Lib.hid (by rw [HD.out, HDR.out, if_neg (by intro h; injection h with h; exact hmb h)])
                clear HD HDR HLW hm hmb
                go_wp2_with (refine wpList_load_by rfl 29 _ rfl b (off + k * 30 + 1) (.agg (plV j.p)) rfl LP.out ?_)
                refine (CX.out).mono ?_
                rintro e_ w6 ⟨rfl, hb⟩
                have HI6 := Lib.hid (HI.out.next hb)
                have H36 := Lib.hid (IntsAt.below H3.out hb)
                clear hb
                go_wp2_with fail
                refine ⟨⟨at_, k + 1, by omega, hat, rfl, by go_num, HI6.out, H36.out, HE2.out⟩, ?_⟩
                simp [intJ]; omega
          · have hkn : k = c.n := by omega
            have hne : at_ = N := by
              rw [hkn, show (plansOf L).drop c.n = [] from List.drop_eq_nil_of_le (by have := HCL.out; omega)] at hd
              have h4 := List.drop_eq_nil_iff.1 hd
              have := HN.out
              omega
            have k7 : wr.cell? ⟨w.heap.size, 7, none⟩ = some (.slice c.a c.n c.c) := hi.box.cell 7
            subst hkn hne
            clear hi hd h3
            go_wp2_with fail
            refine (CW.out _ HI.out.below).mono ?_
            rintro e w99 ⟨rfl, hb⟩
            have HB99 := Lib.hid (HI.out.below.trans (hb.mono HI.out.below.size))
            clear hb
            go_wp2_with fail
            go_ret
            exact ⟨rfl, HB99.out⟩
    · have hs := HF.out hE
      obtain ⟨rfl, rfl⟩ : s1 = none ∧ s2 = [] := by injection hs with h1 h2; exact ⟨h1, h2⟩
      have h1 : (E == 0) = false := by rw [beq_eq_false_iff_ne]; exact hE
      have h2 : (E != 0) = true := by rw [bne, h1]; rfl
      have h3 : decide (E = 0) = false := decide_eq_false hE
      simp only [optI, Option.getD_none, Option.isSome_none] at CNX
      clear HZ HS HF hE hs HNI HDV CDU
      go_wp2_with fail
      refine (CNX.out _ HI.out.arg).mono ?_
      rintro e w3 ⟨v, rfl, ho, hb⟩
      have HI := Lib.hid (HI.out.next hb)
      obtain ⟨a3, cap3, rfl, -⟩ := ho.shape
      clear hb ho c0 c1 c2 c3 c4 c5 c6 c7 CNX
      go_wp2_with fail
      go_loopw [9] (fun s9 wr => s9 = .int .i64 0 ∧ LwC w c L wr) (fun _ _ => 0)
      case atStart => exact ⟨rfl, HI.out⟩
      case round =>
        clear HI
        obtain ⟨rfl, hi⟩ := hrel
        have HI := Lib.hid hi
        clear hi
        go_wp2_with fail
        refine (CW.out _ HI.out.below).mono ?_
        rintro e w99 ⟨rfl, hb⟩
        have HB99 := Lib.hid (HI.out.below.trans (hb.mono HI.out.below.size))
        clear hb
        go_wp2_with fail
        go_ret
        exact ⟨rfl, HB99.out⟩
end Go.Proofs.YtmdjfjdlehdhjaaGreatDoor.BW
