/- Contract of config.Check. Contracts of the reference's CheckGlobals and Check. -/
import Derived.Test.YtmdjfjdlehdhjaaGreatDoorCJob
namespace Go.Proofs.YtmdjfjdlehdhjaaGreatDoor.BW
open Go.RowKit BM Go.Shelf MC RK
open BK hiding ret_bool ret_i64

/-- What Check knows of its memory while it asks the rules. -/
structure CkI (w : World) (c : Cf) (rb pb mb : Nat) (S : List ByteArray) (W : World) : Prop where
  box : Blk W w.heap.size 56 (cfV c)
  rules : Blk W rb 103 (rulesV pb)
  pbk : Blk W pb 132 #[.map (some mb)]
  set_ : SetAt W mb S
  below : Below w.heap.size w W
  hb : w.heap.size < mb
  h1 : rb ≠ mb
  h2 : pb ≠ mb
theorem CkI.next {w : World} {c : Cf} {rb pb mb : Nat} {S : List ByteArray} {X Y : World} (h : CkI w c rb pb mb S X) (hb : Below X.heap.size X Y) : CkI w c rb pb mb S Y :=
  ⟨h.box.below hb h.box.lt, h.rules.below hb h.rules.lt, h.pbk.below hb h.pbk.lt, h.set_.below hb, h.below.trans (hb.mono h.below.size), h.hb, h.h1, h.h2⟩
theorem CkI.put {w : World} {c : Cf} {rb pb mb : Nat} {S S' : List ByteArray} {X Y : World} (h : CkI w c rb pb mb S X) (hg : X.grownBy Y (some mb)) (hs : SetAt Y mb S') : CkI w c rb pb mb S' Y :=
  ⟨h.box.grown hg (by have := h.hb; simp; omega), h.rules.grown hg (by have := h.h1; simpa using this), h.pbk.grown hg (by have := h.h2; simpa using this), hs, h.below.trans (below_only hg h.below.size (Nat.le_of_lt h.hb)), h.hb, h.h1, h.h2⟩
/-- The names of the first k jobs, the last one first. -/
def nmsR (L : JL) (k : Nat) : List ByteArray := ((L.take k).map fun x => x.1.nm).reverse
theorem nmsR_succ {L : JL} {k : Nat} {j : Jb} {l : List (Int × Int)} (h : L[k]? = some (j, l)) : nmsR L (k + 1) = j.nm :: nmsR L k := by
  obtain ⟨hk, hx⟩ := List.getElem?_eq_some_iff.1 h
  unfold nmsR
  rw [List.take_succ_eq_append_getElem hk, hx]
  simp
theorem nmsR_len {L : JL} {k : Nat} : (nmsR L k).length ≤ k := by
  unfold nmsR
  simp
  omega
theorem mem_nmsR {L : JL} {k : Nat} {s : ByteArray} : s ∈ nmsR L k ↔ ∃ i, ∃ hi : i < L.length, i < k ∧ L[i].1.nm = s := by
  unfold nmsR
  rw [List.mem_reverse, List.mem_map]
  constructor
  · rintro ⟨x, hx, rfl⟩
    obtain ⟨i, hi, rfl⟩ := List.getElem_of_mem hx
    simp at hi
    exact ⟨i, by omega, by omega, by simp⟩
  · rintro ⟨i, hi, hk, rfl⟩
    exact ⟨L[i], List.mem_take_iff_getElem.2 ⟨i, by omega, rfl⟩, rfl⟩
theorem new_iff {L : JL} {k : Nat} (hk : k < L.length) : newN L k ↔ L[k].1.nm ∉ nmsR L k := by
  rw [mem_nmsR]
  constructor
  · rintro h ⟨i, hi, hik, e⟩
    exact h i hi hk hik e
  · intro h i hi hk' hik e
    exact h ⟨i, hi, hik, e⟩
/-- Which jobs break the rules. -/
def Q1 (L : JL) (k : Nat) : Bool := match L[k]? with | some x => !nameB x.1.nm | none => false
noncomputable def Q2 (L : JL) (k : Nat) : Bool := match L[k]? with | some x => memB x.1.nm (nmsR L k) | none => false
def Q3 (L : JL) (k : Nat) : Bool := match L[k]? with | some x => !okJ x | none => false
theorem Q1_all {L : JL} (h : ∀ i, i < L.length → Q1 L i = false) : nmsOk L := fun k hk => by
  have := h k hk
  unfold Q1 at this
  rw [List.getElem?_eq_getElem hk] at this
  simpa using this
theorem Q1_not {L : JL} {k : Nat} (hk : k < L.length) (h : Q1 L k = true) : ¬ nmsOk L := fun hh => by
  have := hh k hk
  unfold Q1 at h
  rw [List.getElem?_eq_getElem hk] at h
  simp [this] at h
theorem Q2_all {L : JL} (h : ∀ i, i < L.length → Q2 L i = false) : ∀ i, i < L.length → newN L i := fun k hk => by
  have := h k hk
  unfold Q2 at this
  rw [List.getElem?_eq_getElem hk] at this
  rw [new_iff hk]
  intro hm
  have this : memB L[k].1.nm (nmsR L k) = false := this
  rw [memB_iff.2 hm] at this
  cases this
theorem Q2_not {L : JL} {k : Nat} (hk : k < L.length) (h : Q2 L k = true) : ¬ newN L k := fun hh => by
  unfold Q2 at h
  rw [List.getElem?_eq_getElem hk] at h
  exact (new_iff hk).1 hh (memB_iff.1 h)
theorem Q3_all {L : JL} (h : ∀ i, i < L.length → Q3 L i = false) : allOk L := fun k hk => by
  have := h k hk
  unfold Q3 at this
  rw [List.getElem?_eq_getElem hk] at this
  simpa using this
theorem Q3_not {L : JL} {k : Nat} (hk : k < L.length) (h : Q3 L k = true) : ¬ allOk L := fun hh => by
  have := hh k hk
  unfold Q3 at h
  rw [List.getElem?_eq_getElem hk] at h
  simp [this] at h
theorem ent52 : ∀ args w, (callFunc 52 args).run Tryz.prog w = .ok (.enter 52 args) w := enters_of Tryz.func52 (by kernel_rfl) rfl
theorem ent83 : ∀ args w, (callFunc 83 args).run Tryz.prog w = .ok (.enter 83 args) w := enters_of Tryz.func83 (by kernel_rfl) rfl
theorem ent85 : ∀ args w, (callFunc 85 args).run Tryz.prog w = .ok (.enter 85 args) w := enters_of Tryz.func85 (by kernel_rfl) rfl
theorem ent86 : ∀ args w, (callFunc 86 args).run Tryz.prog w = .ok (.enter 86 args) w := enters_of Tryz.func86 (by kernel_rfl) rfl
/-- The first rule asked of all jobs. -/
theorem ask1_ok (c : Cf) (L : JL) (X : World) (q : Nat) (hA : CArg X c L) (hq : Blk X q 103 #[f1V, .int .i64 15]) :
    Calls Tryz.prog 51 #[.slice c.a c.n c.c, .func (.func 52) #[] #[.pointer (some ⟨q, 0, none⟩)]] X fun e w' => (e = .returned (.bool true) ∧ ¬ nmsOk L ∧ Below X.heap.size X w') ∨ (e = .returned (.bool false) ∧ nmsOk L ∧ Below X.heap.size X w') := by
  refine (cfj_ok L c.a c.n c.c hA.in_.n hA.n9 _ q ent52 (fun _ W => Below X.heap.size X W) (Q1 L) (fun k W h => (hA.below h).in_.at_) (fun k j l W hjl h => ?_) X (Below.refl _ _)).mono ?_
  · have hQ : Q1 L k = !nameB j.nm := by unfold Q1; rw [hjl]
    rw [hQ]
    refine chk1a_ok j q _ 15 ent83 (nameB j.nm) _ W (hq.below h hq.lt) ((rule1_ok j _).mono ?_)
    rintro e w' ⟨rfl, hb⟩
    have h2 := h.alloc h.size (.cells (jbV j) 70)
    exact ⟨rfl, h2.trans (hb.mono h2.size)⟩
  · rintro e w' (⟨rfl, k, hk, h1, _, h3⟩ | ⟨rfl, h1, h2⟩)
    · exact .inl ⟨rfl, Q1_not (by rw [hA.in_.n]; exact hk) h1, h3⟩
    · exact .inr ⟨rfl, Q1_all (by rw [hA.in_.n]; exact h1), h2⟩
theorem ask3_ok (c : Cf) (L : JL) (X : World) (q : Nat) (hA : CArg X c L) (hq : Blk X q 103 #[f3V, .int .i64 16]) :
    Calls Tryz.prog 51 #[.slice c.a c.n c.c, .func (.func 52) #[] #[.pointer (some ⟨q, 0, none⟩)]] X fun e w' => (e = .returned (.bool true) ∧ ¬ allOk L ∧ Below X.heap.size X w') ∨ (e = .returned (.bool false) ∧ allOk L ∧ Below X.heap.size X w') := by
  refine (cfj_ok L c.a c.n c.c hA.in_.n hA.n9 _ q ent52 (fun _ W => Below X.heap.size X W) (Q3 L) (fun k W h => (hA.below h).in_.at_) (fun k j l W hjl h => ?_) X (Below.refl _ _)).mono ?_
  · have hQ : Q3 L k = !okJ (j, l) := by unfold Q3; rw [hjl]
    rw [hQ]
    have h2 := h.alloc h.size (.cells (jbV j) 70)
    have hA2 := hA.below h2
    obtain ⟨hk, hx⟩ := List.getElem?_eq_some_iff.1 hjl
    obtain ⟨_, _, _, _, hpi⟩ := hA2.in_.at_ k hk
    have h9 := hA2.p9 k hk
    rw [hx] at hpi h9
    refine chk1a_ok j q _ 16 ent86 (okJ (j, l)) _ W (hq.below h hq.lt) ((rule3_ok j l _ (hpi.arg h9 hA2.st hA2.tab)).mono ?_)
    rintro e w' ⟨rfl, hb⟩
    exact ⟨rfl, h2.trans (hb.mono h2.size)⟩
  · rintro e w' (⟨rfl, k, hk, h1, _, h3⟩ | ⟨rfl, h1, h2⟩)
    · exact .inl ⟨rfl, Q3_not (by rw [hA.in_.n]; exact hk) h1, h3⟩
    · exact .inr ⟨rfl, Q3_all (by rw [hA.in_.n]; exact h1), h2⟩
theorem ask2_ok (w : World) (c : Cf) (L : JL) (rb pb mb q : Nat) (X : World) (hA : CArg w c L) (hN : nmsOk L) (hI : CkI w c rb pb mb [] X) (hq : Blk X q 103 #[f2V pb, .int .i64 6]) (hqm : q ≠ mb) :
    Calls Tryz.prog 51 #[.slice c.a c.n c.c, .func (.func 52) #[] #[.pointer (some ⟨q, 0, none⟩)]] X fun e w' => (e = .returned (.bool true) ∧ (∃ k, k < L.length ∧ ¬ newN L k) ∧ Below w.heap.size w w' ∧ Blk w' q 103 #[f2V pb, .int .i64 6]) ∨ (e = .returned (.bool false) ∧ (∀ i, i < L.length → newN L i) ∧ ∃ S, CkI w c rb pb mb S w') := by
  refine (cfj_ok L c.a c.n c.c hA.in_.n hA.n9 _ q ent52 (fun k W => CkI w c rb pb mb (nmsR L k) W ∧ Blk W q 103 #[f2V pb, .int .i64 6]) (Q2 L) (fun k W h => (hA.below h.1.below).in_.at_) (fun k j l W hjl h => ?_) X ⟨by unfold nmsR; simpa using hI, hq⟩).mono ?_
  · have hQ : Q2 L k = !!memB j.nm (nmsR L k) := by unfold Q2; rw [hjl, Bool.not_not]
    rw [hQ, nmsR_succ hjl]
    obtain ⟨hk, hx⟩ := List.getElem?_eq_some_iff.1 hjl
    have hj := hN k hk
    rw [hx] at hj
    have ha := (Below.refl _ W).alloc (Nat.le_refl _) (.cells (jbV j) 70)
    have h1 := h.1.next ha
    have hq1 := h.2.below ha h.2.lt
    refine chk1b_ok j q _ pb 6 ent85 (!memB j.nm (nmsR L k)) _ W h.2 ((rule2_ok j pb mb (nmsR L k) _ hj (by have := nmsR_len (L := L) (k := k); have := hA.n9; have := hA.in_.n; omega) h1.pbk h1.set_).mono ?_)
    rintro e w' ⟨rfl, hs, hg⟩
    exact ⟨rfl, h1.put hg hs, hq1.grown hg (by simpa using hqm)⟩
  · rintro e w' (⟨rfl, k, hk, h1, _, h3⟩ | ⟨rfl, h1, h2⟩)
    · exact .inl ⟨rfl, ⟨k, by rw [hA.in_.n]; exact hk, Q2_not (by rw [hA.in_.n]; exact hk) h1⟩, h3.1.below, h3.2⟩
    · exact .inr ⟨rfl, Q2_all (by rw [hA.in_.n]; exact h1), _, h2.1⟩
set_option maxRecDepth 8000 in
set_option maxHeartbeats 8000000 in
theorem ccheck_ok (c : Cf) (L : JL) (w : World) (hA : CArg w c L) : Calls Tryz.prog 29 #[.agg (cfV c)] w fun e w' => e = .returned (.int .i64 (cfE c.g L)) ∧ Below w.heap.size w w' := by
  have C0 := Lib.hid (fun W => glob_ok c.g W)
  have CR := Lib.hid (fun W => rules_ok W)
  have HBX := Lib.hid (Blk.new w 56 (cfV c))
  have HB := Lib.hid ((Below.refl _ w).alloc (Nat.le_refl _) (.cells (cfV c) 56))
  have HA := Lib.hid hA
  have HE : Hid (glB c.g = false → cfE c.g L = 16) := Lib.hid cfE_g
  have HM : Hid (glB c.g = true → 64 < c.n → cfE c.g L = 12) := Lib.hid (fun h hn => cfE_many h (by rw [hA.in_.n]; exact hn))
  have H15 : Hid (glB c.g = true → ¬ 64 < c.n → ¬ nmsOk L → cfE c.g L = 15) := Lib.hid (fun h hn => cfE_name h (by rw [hA.in_.n]; exact hn))
  have H6 : Hid (glB c.g = true → ¬ 64 < c.n → nmsOk L → (∃ k, k < L.length ∧ ¬ newN L k) → cfE c.g L = 6) := Lib.hid (fun h hn h1 ⟨k, hk, h2⟩ => cfE_have h (by rw [hA.in_.n]; exact hn) h1 hk h2)
  have H16 : Hid (glB c.g = true → ¬ 64 < c.n → nmsOk L → (∀ i, i < L.length → newN L i) → ¬ allOk L → cfE c.g L = 16) := Lib.hid (fun h hn h1 h2 h3 => cfE_rule h (by rw [hA.in_.n]; exact hn) h1 h2 h3)
  have HZ : Hid (glB c.g = true → ¬ 64 < c.n → nmsOk L → (∀ i, i < L.length → newN L i) → allOk L → cfE c.g L = 0) := Lib.hid (fun h hn h1 h2 h3 => cfE_ok h (by rw [hA.in_.n]; exact hn) h1 h2 h3)
  generalize cfE c.g L = E at *
  generalize glB c.g = gb at *
  rw [cfV_eq] at HBX HB ⊢
  unfold glV at C0
  clear hA
  cases gb
  · have HEE := Lib.hid (HE.out rfl)
    have e0 : eB false = 16 := rfl
    rw [e0] at C0
    clear HE HM H15 H6 H16 HZ e0
    go_enter Tryz.func29, Tryz.ntmps29
    go_wp2_with fail
    refine (C0.out _).mono ?_
    rintro e w2 ⟨rfl, hb⟩
    have HB2 := Lib.hid (HB.out.trans (Below.mono (w := w.alloc _) hb HB.out.size))
    clear hb
    go_wp2_with fail
    go_ret
    exact ⟨ret_i64 HEE.out.symm, HB2.out⟩
  · have e0 : eB true = 0 := rfl
    rw [e0] at C0
    by_cases h64 : 64 < c.n
    · have d1 : decide (64 < c.n) = true := decide_eq_true h64
      have d2 : decide ((64 : Int) < c.n) = true := decide_eq_true (by omega)
      have HEE := Lib.hid (HM.out rfl h64)
      clear HE HM H15 H6 H16 HZ e0 h64
      go_enter Tryz.func29, Tryz.ntmps29
      go_wp2_with fail
      refine (C0.out _).mono ?_
      rintro e w2 ⟨rfl, hb⟩
      have HBX2 := Lib.hid (Blk.below (w := w.alloc _) HBX.out hb HBX.out.lt)
      have HB2 := Lib.hid (HB.out.trans (Below.mono (w := w.alloc _) hb HB.out.size))
      have k7 : w2.cell? ⟨w.heap.size, 7, none⟩ = some (.slice c.a c.n c.c) := HBX2.out.cell 7
      clear hb
      go_wp2_with fail
      go_ret
      exact ⟨ret_i64 HEE.out.symm, HB2.out⟩
    · have d1 : decide (64 < c.n) = false := decide_eq_false h64
      have d2 : decide ((64 : Int) < c.n) = false := decide_eq_false (by omega)
      have JH15 := Lib.hid (H15.out rfl h64)
      have JH6 := Lib.hid (H6.out rfl h64)
      have JH16 := Lib.hid (H16.out rfl h64)
      have JHZ := Lib.hid (HZ.out rfl h64)
      clear HE HM H15 H6 H16 HZ e0 h64
      go_enter Tryz.func29, Tryz.ntmps29
      go_wp2_with fail
      refine (C0.out _).mono ?_
      rintro e w2 ⟨rfl, hb⟩
      have HBX2 := Lib.hid (Blk.below (w := w.alloc _) HBX.out hb HBX.out.lt)
      have HB2 := Lib.hid (HB.out.trans (Below.mono (w := w.alloc _) hb HB.out.size))
      have k7 : w2.cell? ⟨w.heap.size, 7, none⟩ = some (.slice c.a c.n c.c) := HBX2.out.cell 7
      clear hb
      go_wp2_with fail
      refine (CR.out _).mono ?_
      rintro e w3 ⟨rfl, hr, hp, hs, hb⟩
      have hlt := HBX2.out.lt
      have HI : Hid (CkI w c (w2.heap.size + 2) (w2.heap.size + 1) w2.heap.size [] w3) := Lib.hid ⟨HBX2.out.below hb HBX2.out.lt, hr, hp, hs, HB2.out.trans (hb.mono HB2.out.size), hlt, by omega, by omega⟩
      generalize w2.heap.size + 2 = rb at *
      generalize w2.heap.size + 1 = pb at *
      generalize w2.heap.size = mb at *
      clear hr hp hs hb hlt k7
      go_wp2_with fail
      go_loopw [18] (fun s18 wr => ∃ i : Nat, i ≤ 3 ∧ s18 = .int .i64 i ∧ (∃ S, CkI w c rb pb mb S wr ∧ (i ≤ 1 → S = [])) ∧ (1 ≤ i → nmsOk L) ∧ (2 ≤ i → ∀ k, k < L.length → newN L k) ∧ (3 ≤ i → allOk L)) (fun s18 _ => 3 - intJ s18)
      case atStart => exact ⟨0, by omega, rfl, ⟨[], HI.out, fun _ => rfl⟩, fun h => by omega, fun h => by omega, fun h => by omega⟩
      case round =>
        obtain ⟨i, hi, rfl, ⟨Sx, hI, hS⟩, h1, h2, h3⟩ := hrel
        have HX := Lib.hid (And.intro h1 (And.intro h2 (And.intro h3 hS)))
        have HIx := Lib.hid hI
        clear HI hI h1 h2 h3 hS
        have k7 : wr.cell? ⟨w.heap.size, 7, none⟩ = some (.slice c.a c.n c.c) := HIx.out.box.cell 7
        have hl1 := HIx.out.box.lt
        have hl2 := HIx.out.rules.lt
        obtain rfl | rfl | rfl | rfl : i = 0 ∨ i = 1 ∨ i = 2 ∨ i = 3 := by omega
        · have r0 : wr.cell? ⟨rb, 0, none⟩ = some (.func (.func 83) #[] #[]) := HIx.out.rules.cell 0
          have r1 : wr.cell? ⟨rb, 1, none⟩ = some (.int .i64 15) := HIx.out.rules.cell 1
          have hal := HIx.out.below.alloc HIx.out.below.size (.cells #[f1V, .int .i64 15] 103)
          have C1 := Lib.hid (ask1_ok c L (wr.alloc (.cells #[f1V, .int .i64 15] 103)) wr.heap.size (HA.out.below hal) (Blk.new wr _ _))
          have HQ := Lib.hid (Blk.new wr 103 #[f1V, .int .i64 15])
          have HI2 := Lib.hid (HIx.out.next ((Below.refl _ wr).alloc (Nat.le_refl _) (.cells #[f1V, .int .i64 15] 103)))
          unfold f1V at C1 HQ HI2
          clear hal
          go_wp2_with fail
          refine (C1.out).mono ?_
          rintro e w5 (⟨rfl, hn, hb⟩ | ⟨rfl, hn, hb⟩)
          · have HE2 := Lib.hid (JH15.out hn)
            have HB5 := Lib.hid (HI2.out.next hb).below
            have q1 : w5.cell? ⟨wr.heap.size, 1, none⟩ = some (.int .i64 15) := (Blk.below (w := wr.alloc _) HQ.out hb HQ.out.lt).cell 1
            clear hb hn
            go_wp2_with fail
            go_ret
            exact ⟨ret_i64 HE2.out.symm, HB5.out⟩
          · have HI5 := Lib.hid (HI2.out.next hb)
            have HN := Lib.hid hn
            clear hb hn
            go_wp2_with fail
            refine ⟨⟨1, by omega, by go_num, ⟨Sx, HI5.out, fun _ => HX.out.2.2.2 (by omega)⟩, fun _ => HN.out, fun h => by omega, fun h => by omega⟩, ?_⟩
            simp [intJ]
        · have r0 : wr.cell? ⟨rb, 2, none⟩ = some (.func (.func 85) #[] #[.pointer (some ⟨pb, 0, none⟩)]) := HIx.out.rules.cell 2
          have r1 : wr.cell? ⟨rb, 3, none⟩ = some (.int .i64 6) := HIx.out.rules.cell 3
          obtain rfl : Sx = [] := HX.out.2.2.2 (by omega)
          have hmb := HIx.out.set_.lt
          have HI2 := Lib.hid (HIx.out.next ((Below.refl _ wr).alloc (Nat.le_refl _) (.cells #[f2V pb, .int .i64 6] 103)))
          have C1 := Lib.hid (ask2_ok w c L rb pb mb wr.heap.size (wr.alloc (.cells #[f2V pb, .int .i64 6] 103)) HA.out (HX.out.1 (by omega)) HI2.out (Blk.new wr _ _) (by omega))
          unfold f2V at C1 HI2
          clear hmb
          go_wp2_with fail
          refine (C1.out).mono ?_
          rintro e w5 (⟨rfl, hn, hb, hq⟩ | ⟨rfl, hn, S5, hI5⟩)
          · have HE2 := Lib.hid (JH6.out (HX.out.1 (by omega)) hn)
            have HB5 := Lib.hid hb
            have q1 : w5.cell? ⟨wr.heap.size, 1, none⟩ = some (.int .i64 6) := hq.cell 1
            clear hb hn hq
            go_wp2_with fail
            go_ret
            exact ⟨ret_i64 HE2.out.symm, HB5.out⟩
          · have HI5 := Lib.hid hI5
            have HN := Lib.hid hn
            clear hI5 hn
            go_wp2_with fail
            refine ⟨⟨2, by omega, by go_num, ⟨S5, HI5.out, fun h => by omega⟩, fun _ => HX.out.1 (by omega), fun _ => HN.out, fun h => by omega⟩, ?_⟩
            simp [intJ]
        · have r0 : wr.cell? ⟨rb, 4, none⟩ = some (.func (.func 86) #[] #[]) := HIx.out.rules.cell 4
          have r1 : wr.cell? ⟨rb, 5, none⟩ = some (.int .i64 16) := HIx.out.rules.cell 5
          have hal := HIx.out.below.alloc HIx.out.below.size (.cells #[f3V, .int .i64 16] 103)
          have C1 := Lib.hid (ask3_ok c L (wr.alloc (.cells #[f3V, .int .i64 16] 103)) wr.heap.size (HA.out.below hal) (Blk.new wr _ _))
          have HQ := Lib.hid (Blk.new wr 103 #[f3V, .int .i64 16])
          have HI2 := Lib.hid (HIx.out.next ((Below.refl _ wr).alloc (Nat.le_refl _) (.cells #[f3V, .int .i64 16] 103)))
          unfold f3V at C1 HQ HI2
          clear hal
          go_wp2_with fail
          refine (C1.out).mono ?_
          rintro e w5 (⟨rfl, hn, hb⟩ | ⟨rfl, hn, hb⟩)
          · have HE2 := Lib.hid (JH16.out (HX.out.1 (by omega)) (HX.out.2.1 (by omega)) hn)
            have HB5 := Lib.hid (HI2.out.next hb).below
            have q1 : w5.cell? ⟨wr.heap.size, 1, none⟩ = some (.int .i64 16) := (Blk.below (w := wr.alloc _) HQ.out hb HQ.out.lt).cell 1
            clear hb hn
            go_wp2_with fail
            go_ret
            exact ⟨ret_i64 HE2.out.symm, HB5.out⟩
          · have HI5 := Lib.hid (HI2.out.next hb)
            have HN := Lib.hid hn
            clear hb hn
            go_wp2_with fail
            refine ⟨⟨3, by omega, by go_num, ⟨Sx, HI5.out, fun h => by omega⟩, fun _ => HX.out.1 (by omega), fun _ => HX.out.2.1 (by omega), fun _ => HN.out⟩, ?_⟩
            simp [intJ]
        · have HE2 := Lib.hid (JHZ.out (HX.out.1 (by omega)) (HX.out.2.1 (by omega)) (HX.out.2.2.1 (by omega)))
          have HB5 := Lib.hid HIx.out.below
          go_wp2_with fail
          go_ret
          exact ⟨ret_i64 HE2.out.symm, HB5.out⟩
end Go.Proofs.YtmdjfjdlehdhjaaGreatDoor.BW
namespace Go.Proofs.YtmdjfjdlehdhjaaGreatDoor.BW
open Go.RowKit BM Go.Shelf MC RK
open BK hiding ret_bool ret_i64

theorem gl_bad {g : Gl} (h : g.cap < 1 ∨ 1000 < g.cap ∨ g.q < 1 ∨ 1024 < g.q ∨ g.ar < 0 ∨ 4096 < g.ar ∨ g.ag < 1 ∨ 68719476736 < g.ag) : glB g = false := by
  rw [← Bool.not_eq_true]
  intro hh
  unfold glB inB at hh
  simp only [Bool.and_eq_true, decide_eq_true_eq] at hh
  omega
theorem gl_in {g : Gl} (h : ¬ (g.cap < 1 ∨ 1000 < g.cap ∨ g.q < 1 ∨ 1024 < g.q ∨ g.ar < 0 ∨ 4096 < g.ar ∨ g.ag < 1 ∨ 68719476736 < g.ag)) : glB g = limB g.t g.tau := by
  unfold glB inB
  rw [decide_eq_true (show 1 ≤ g.cap by omega), decide_eq_true (show g.cap ≤ 1000 by omega), decide_eq_true (show 1 ≤ g.q by omega), decide_eq_true (show g.q ≤ 1024 by omega), decide_eq_true (show 0 ≤ g.ar by omega), decide_eq_true (show g.ar ≤ 4096 by omega), decide_eq_true (show 1 ≤ g.ag by omega), decide_eq_true (show g.ag ≤ 68719476736 by omega)]
  rfl
set_option maxRecDepth 8000 in
set_option maxHeartbeats 4000000 in
theorem rglob_ok (g : Gl) (w : World) : Calls Tryz.prog 34 #[.agg (glV g)] w fun e w' => e = .returned (.int .i64 (eB (glB g))) ∧ Below w.heap.size w w' := by
  have C4 := Lib.hid (fun W => rlimit_ok g.t g.tau W)
  have HF := Lib.hid (gl_bad (g := g))
  have HI := Lib.hid (gl_in (g := g))
  generalize limB g.t g.tau = b4 at *
  generalize glB g = b at *
  have HB := Lib.hid ((Below.refl _ w).alloc (Nat.le_refl _) (.cells (glV g) 53))
  unfold glV at HB ⊢
  by_cases h0 : g.cap < 1
  · have HR : Hid (b = false) := Lib.hid (HF.out (by omega))
    have d0 : decide (g.cap < 1) = true := decide_eq_true h0
    clear HF HI h0
    go_enter Tryz.func34, Tryz.ntmps34
    go_wp2_with fail
    go_ret
    exact ⟨ret_i64 (by rw [HR.out]; rfl), HB.out⟩
  · by_cases h1 : 1000 < g.cap
    · have HR : Hid (b = false) := Lib.hid (HF.out (by omega))
      have d0 : decide (g.cap < 1) = false := decide_eq_false h0
      have d1 : decide (1000 < g.cap) = true := decide_eq_true h1
      clear HF HI h0 h1
      go_enter Tryz.func34, Tryz.ntmps34
      go_wp2_with fail
      go_ret
      exact ⟨ret_i64 (by rw [HR.out]; rfl), HB.out⟩
    · by_cases h2 : g.q < 1
      · have HR : Hid (b = false) := Lib.hid (HF.out (by omega))
        have d0 : decide (g.cap < 1) = false := decide_eq_false h0
        have d1 : decide (1000 < g.cap) = false := decide_eq_false h1
        have d2 : decide (g.q < 1) = true := decide_eq_true h2
        clear HF HI h0 h1 h2
        go_enter Tryz.func34, Tryz.ntmps34
        go_wp2_with fail
        go_ret
        exact ⟨ret_i64 (by rw [HR.out]; rfl), HB.out⟩
      · by_cases h3 : 1024 < g.q
        · have HR : Hid (b = false) := Lib.hid (HF.out (by omega))
          have d0 : decide (g.cap < 1) = false := decide_eq_false h0
          have d1 : decide (1000 < g.cap) = false := decide_eq_false h1
          have d2 : decide (g.q < 1) = false := decide_eq_false h2
          have d3 : decide (1024 < g.q) = true := decide_eq_true h3
          clear HF HI h0 h1 h2 h3
          go_enter Tryz.func34, Tryz.ntmps34
          go_wp2_with fail
          go_ret
          exact ⟨ret_i64 (by rw [HR.out]; rfl), HB.out⟩
        · by_cases h4 : g.ar < 0
          · have HR : Hid (b = false) := Lib.hid (HF.out (by omega))
            have d0 : decide (g.cap < 1) = false := decide_eq_false h0
            have d1 : decide (1000 < g.cap) = false := decide_eq_false h1
            have d2 : decide (g.q < 1) = false := decide_eq_false h2
            have d3 : decide (1024 < g.q) = false := decide_eq_false h3
            have d4 : decide (g.ar < 0) = true := decide_eq_true h4
            clear HF HI h0 h1 h2 h3 h4
            go_enter Tryz.func34, Tryz.ntmps34
            go_wp2_with fail
            go_ret
            exact ⟨ret_i64 (by rw [HR.out]; rfl), HB.out⟩
          · by_cases h5 : 4096 < g.ar
            · have HR : Hid (b = false) := Lib.hid (HF.out (by omega))
              have d0 : decide (g.cap < 1) = false := decide_eq_false h0
              have d1 : decide (1000 < g.cap) = false := decide_eq_false h1
              have d2 : decide (g.q < 1) = false := decide_eq_false h2
              have d3 : decide (1024 < g.q) = false := decide_eq_false h3
              have d4 : decide (g.ar < 0) = false := decide_eq_false h4
              have d5 : decide (4096 < g.ar) = true := decide_eq_true h5
              clear HF HI h0 h1 h2 h3 h4 h5
              go_enter Tryz.func34, Tryz.ntmps34
              go_wp2_with fail
              go_ret
              exact ⟨ret_i64 (by rw [HR.out]; rfl), HB.out⟩
            · by_cases h6 : g.ag < 1
              · have HR : Hid (b = false) := Lib.hid (HF.out (by omega))
                have d0 : decide (g.cap < 1) = false := decide_eq_false h0
                have d1 : decide (1000 < g.cap) = false := decide_eq_false h1
                have d2 : decide (g.q < 1) = false := decide_eq_false h2
                have d3 : decide (1024 < g.q) = false := decide_eq_false h3
                have d4 : decide (g.ar < 0) = false := decide_eq_false h4
                have d5 : decide (4096 < g.ar) = false := decide_eq_false h5
                have d6 : decide (g.ag < 1) = true := decide_eq_true h6
                clear HF HI h0 h1 h2 h3 h4 h5 h6
                go_enter Tryz.func34, Tryz.ntmps34
                go_wp2_with fail
                go_ret
                exact ⟨ret_i64 (by rw [HR.out]; rfl), HB.out⟩
              · by_cases h7 : 68719476736 < g.ag
                · have HR : Hid (b = false) := Lib.hid (HF.out (by omega))
                  have d0 : decide (g.cap < 1) = false := decide_eq_false h0
                  have d1 : decide (1000 < g.cap) = false := decide_eq_false h1
                  have d2 : decide (g.q < 1) = false := decide_eq_false h2
                  have d3 : decide (1024 < g.q) = false := decide_eq_false h3
                  have d4 : decide (g.ar < 0) = false := decide_eq_false h4
                  have d5 : decide (4096 < g.ar) = false := decide_eq_false h5
                  have d6 : decide (g.ag < 1) = false := decide_eq_false h6
                  have d7 : decide (68719476736 < g.ag) = true := decide_eq_true h7
                  clear HF HI h0 h1 h2 h3 h4 h5 h6 h7
                  go_enter Tryz.func34, Tryz.ntmps34
                  go_wp2_with fail
                  go_ret
                  exact ⟨ret_i64 (by rw [HR.out]; rfl), HB.out⟩
                · have HR : Hid (b = b4) := Lib.hid (HI.out (by omega))
                  have d0 : decide (g.cap < 1) = false := decide_eq_false h0
                  have d1 : decide (1000 < g.cap) = false := decide_eq_false h1
                  have d2 : decide (g.q < 1) = false := decide_eq_false h2
                  have d3 : decide (1024 < g.q) = false := decide_eq_false h3
                  have d4 : decide (g.ar < 0) = false := decide_eq_false h4
                  have d5 : decide (4096 < g.ar) = false := decide_eq_false h5
                  have d6 : decide (g.ag < 1) = false := decide_eq_false h6
                  have d7 : decide (68719476736 < g.ag) = false := decide_eq_false h7
                  clear HF HI h0 h1 h2 h3 h4 h5 h6 h7
                  cases b4
                  · go_enter Tryz.func34, Tryz.ntmps34
                    go_wp2_with fail
                    refine (C4.out _).mono ?_
                    rintro r_ w5 ⟨rfl, hb⟩
                    have HB5 := Lib.hid (HB.out.trans (Below.mono (w := w.alloc _) hb HB.out.size))
                    clear hb
                    have e0 : eB false = 16 := rfl
                    rw [e0]
                    go_wp2_with fail
                    go_ret
                    exact ⟨ret_i64 (by rw [HR.out]; rfl), HB5.out⟩
                  · go_enter Tryz.func34, Tryz.ntmps34
                    go_wp2_with fail
                    refine (C4.out _).mono ?_
                    rintro r_ w5 ⟨rfl, hb⟩
                    have HB5 := Lib.hid (HB.out.trans (Below.mono (w := w.alloc _) hb HB.out.size))
                    clear hb
                    have e0 : eB true = 0 := rfl
                    rw [e0]
                    go_wp2_with fail
                    go_ret
                    exact ⟨ret_i64 (by rw [HR.out]; rfl), HB5.out⟩
set_option maxRecDepth 8000 in
set_option maxHeartbeats 8000000 in
theorem rcchk_ok (c : Cf) (L : JL) (w : World) (hA : CArg w c L) : Calls Tryz.prog 32 #[.agg (cfV c)] w fun e w' => e = .returned (.int .i64 (cfE c.g L)) ∧ Below w.heap.size w w' := by
  have C0 := Lib.hid (fun W => rglob_ok c.g W)
  have CN := Lib.hid (fun s W => rname_ok s W)
  have HBX := Lib.hid (Blk.new w 56 (cfV c))
  have HB := Lib.hid ((Below.refl _ w).alloc (Nat.le_refl _) (.cells (cfV c) 56))
  have HA := Lib.hid hA
  have HN := Lib.hid hA.in_.n
  have HE : Hid (glB c.g = false → cfE c.g L = 16) := Lib.hid cfE_g
  have HM : Hid (glB c.g = true → 64 < c.n → cfE c.g L = 12) := Lib.hid (fun h hn => cfE_many h (by rw [hA.in_.n]; exact hn))
  have H15 : Hid (glB c.g = true → ¬ 64 < c.n → ¬ nmsOk L → cfE c.g L = 15) := Lib.hid (fun h hn => cfE_name h (by rw [hA.in_.n]; exact hn))
  have H6 : Hid (glB c.g = true → ¬ 64 < c.n → nmsOk L → (∃ k, k < L.length ∧ ¬ newN L k) → cfE c.g L = 6) := Lib.hid (fun h hn h1 ⟨k, hk, h2⟩ => cfE_have h (by rw [hA.in_.n]; exact hn) h1 hk h2)
  have H16 : Hid (glB c.g = true → ¬ 64 < c.n → nmsOk L → (∀ i, i < L.length → newN L i) → ¬ allOk L → cfE c.g L = 16) := Lib.hid (fun h hn h1 h2 h3 => cfE_rule h (by rw [hA.in_.n]; exact hn) h1 h2 h3)
  have HZ : Hid (glB c.g = true → ¬ 64 < c.n → nmsOk L → (∀ i, i < L.length → newN L i) → allOk L → cfE c.g L = 0) := Lib.hid (fun h hn h1 h2 h3 => cfE_ok h (by rw [hA.in_.n]; exact hn) h1 h2 h3)
  generalize cfE c.g L = E at *
  generalize glB c.g = gb at *
  rw [cfV_eq] at HBX HB ⊢
  unfold glV at C0
  clear hA
  obtain ⟨cg, ca, cn, cc⟩ := c
  simp only at *
  cases gb
  · have HEE := Lib.hid (HE.out rfl)
    have e0 : eB false = 16 := rfl
    rw [e0] at C0
    clear HE HM H15 H6 H16 HZ e0
    go_enter Tryz.func32, Tryz.ntmps32
    go_wp2_with fail
    refine (C0.out _).mono ?_
    rintro e w2 ⟨rfl, hb⟩
    have HB2 := Lib.hid (HB.out.trans (Below.mono (w := w.alloc _) hb HB.out.size))
    clear hb
    go_wp2_with fail
    go_ret
    exact ⟨ret_i64 HEE.out.symm, HB2.out⟩
  · have e0 : eB true = 0 := rfl
    rw [e0] at C0
    by_cases h64 : 64 < cn
    · have d1 : decide (64 < cn) = true := decide_eq_true h64
      have d2 : decide ((64 : Int) < cn) = true := decide_eq_true (by omega)
      have HEE := Lib.hid (HM.out rfl h64)
      clear HE HM H15 H6 H16 HZ e0 h64
      go_enter Tryz.func32, Tryz.ntmps32
      go_wp2_with fail
      refine (C0.out _).mono ?_
      rintro e w2 ⟨rfl, hb⟩
      have HBX2 := Lib.hid (Blk.below (w := w.alloc _) HBX.out hb HBX.out.lt)
      have HB2 := Lib.hid (HB.out.trans (Below.mono (w := w.alloc _) hb HB.out.size))
      have k7 : w2.cell? ⟨w.heap.size, 7, none⟩ = some (.slice ca cn cc) := HBX2.out.cell 7
      clear hb
      go_wp2_with fail
      go_ret
      exact ⟨ret_i64 HEE.out.symm, HB2.out⟩
    · have d1 : decide (64 < cn) = false := decide_eq_false h64
      have d2 : decide ((64 : Int) < cn) = false := decide_eq_false (by omega)
      have hn64 : cn ≤ 64 := by omega
      have J15 := Lib.hid (H15.out rfl h64)
      have J6 := Lib.hid (H6.out rfl h64)
      have J16 := Lib.hid (H16.out rfl h64)
      have JZ := Lib.hid (HZ.out rfl h64)
      clear HE HM H15 H6 H16 HZ e0 h64
      go_enter Tryz.func32, Tryz.ntmps32
      go_wp2_with fail
      refine (C0.out _).mono ?_
      rintro e w2 ⟨rfl, hb⟩
      have HBX2 := Lib.hid (Blk.below (w := w.alloc _) HBX.out hb HBX.out.lt)
      have HB2 := Lib.hid (HB.out.trans (Below.mono (w := w.alloc _) hb HB.out.size))
      have k7 : w2.cell? ⟨w.heap.size, 7, none⟩ = some (.slice ca cn cc) := HBX2.out.cell 7
      have HA2 := Lib.hid (HA.out.below HB2.out)
      clear hb HBX HB
      go_wp2_with fail
      go_loop [3] (fun s3 => ∃ k : Nat, k ≤ cn ∧ s3 = .int .i64 k ∧ ∀ i (hi : i < L.length), i < k → nameB L[i].1.nm = true) (fun s3 => cn - intJ s3)
      case atStart => exact ⟨0, Nat.zero_le _, rfl, fun i hi h => absurd h (Nat.not_lt_zero _)⟩
      case round =>
        obtain ⟨k, hk, rfl, hok⟩ := hrel
        have HOK := Lib.hid hok
        clear hok
        rcases Nat.lt_or_ge k cn with hlt | hge
        · have hkl : k < L.length := by have := HN.out; omega
          obtain ⟨b, off, rfl, hcl, -⟩ := HA2.out.in_.at_ k hkl
          have c0 : w2.cell? ⟨b, off + k * 30, none⟩ = some (.string L[k].1.nm) := hcl 0 (by decide)
          have HX := Lib.hid (fun (he : nameB L[k].1.nm = false) => J15.out (fun hh => by have := hh k hkl; rw [he] at this; cases this))
          have HY := Lib.hid (fun (he : nameB L[k].1.nm = true) i (hi : i < L.length) (h : i < k + 1) => (by
            rcases Nat.lt_or_ge i k with h4 | h4
            · exact HOK.out i hi h4
            · obtain rfl : i = k := by omega
              exact he : nameB L[i].1.nm = true))
          have C1 := Lib.hid (CN.out L[k].1.nm w2)
          generalize nameB L[k].1.nm = d at *
          generalize L[k].1.nm = nm at *
          clear hcl
          cases d
          · have HX2 := Lib.hid (HX.out rfl)
            clear HX HY
            go_wp2_with fail
            refine (C1.out).mono ?_
            rintro e_ w3 ⟨rfl, rfl⟩
            go_wp2_with fail
            go_ret
            exact ⟨ret_i64 HX2.out.symm, HB2.out⟩
          · have HY2 := Lib.hid (HY.out rfl)
            clear HX HY
            go_wp2_with fail
            refine (C1.out).mono ?_
            rintro e_ w3 ⟨rfl, rfl⟩
            go_wp2_with fail
            refine ⟨⟨k + 1, by omega, by go_num, HY2.out⟩, ?_⟩
            simp [intJ]; omega
        · obtain rfl : cn = k := by omega
          have HN1 : Hid (nmsOk L) := Lib.hid (fun i hi => HOK.out i hi (by have := HN.out; omega))
          clear HOK
          go_wp2_with fail
          go_loopw [4, 5] (fun s4 _ wr => ∃ k : Nat, k ≤ cn ∧ s4 = .int .i64 k ∧ Below w2.heap.size w2 wr ∧ ∀ i, i < k → newN L i) (fun s4 _ _ => cn - intJ s4)
          case atStart => exact ⟨0, Nat.zero_le _, rfl, Below.refl _ _, fun i h => absurd h (Nat.not_lt_zero _)⟩
          case round =>
            clear k7
            obtain ⟨k, hk, rfl, hbr, hok⟩ := hrel
            have HOK := Lib.hid hok
            have HBR := Lib.hid hbr
            have k7 : wr.cell? ⟨w.heap.size, 7, none⟩ = some (.slice ca cn cc) := (HBX2.out.below hbr HBX2.out.lt).cell 7
            clear hok hbr
            rcases Nat.lt_or_ge k cn with hlt | hge
            · have hkl : k < L.length := by have := HN.out; omega
              go_wp2_with fail
              go_loopw [5] (fun s5 wr => ∃ i : Nat, i ≤ k ∧ s5 = .int .i64 i ∧ Below w2.heap.size w2 wr ∧ ∀ m (hm : m < L.length), m < i → L[m].1.nm ≠ L[k].1.nm) (fun s5 _ => k - intJ s5)
              case atStart => exact ⟨0, Nat.zero_le _, rfl, HBR.out, fun i _ h => absurd h (Nat.not_lt_zero _)⟩
              case round =>
                clear k7
                obtain ⟨i, hi, rfl, hbv, hne⟩ := hrel
                have HNE := Lib.hid hne
                have HBV := Lib.hid hbv
                clear hne hbv
                rcases Nat.lt_or_ge i k with hik | hik
                · have hil : i < L.length := by omega
                  have HAV := Lib.hid (HA2.out.below HBV.out)
                  obtain ⟨b, off, rfl, hcl, -⟩ := HAV.out.in_.at_ k hkl
                  obtain ⟨b', off', ha', hcl', -⟩ := HAV.out.in_.at_ i hil
                  injection ha' with ha'
                  injection ha' with hb1 hb2
                  subst hb1 hb2
                  have k7 := cell_regrown (show wr.cell? ⟨w.heap.size, 7, none⟩ = some (.slice (some ⟨b, off, none⟩) cn cc) from (HBX2.out.below HBV.out HBX2.out.lt).cell 7)
                  have c0 := cell_regrown (show wr.cell? ⟨b, off + k * 30, none⟩ = some (.string L[k].1.nm) from hcl 0 (by decide))
                  have c1 := cell_regrown (show wr.cell? ⟨b, off + i * 30, none⟩ = some (.string L[i].1.nm) from hcl' 0 (by decide))
                  have HX := Lib.hid (fun (he : sEq L[k].1.nm L[i].1.nm = true) => J6.out HN1.out ⟨k, hkl, fun hh => hh i hil hkl hik (sEq_iff.1 he).symm⟩)
                  have HY := Lib.hid (fun (he : sEq L[k].1.nm L[i].1.nm = false) m (hm : m < L.length) (h : m < i + 1) => (by
                    rcases Nat.lt_or_ge m i with h4 | h4
                    · exact HNE.out m hm h4
                    · obtain rfl : m = i := by omega
                      exact fun h5 => by rw [sEq_iff.2 h5.symm] at he; exact absurd he (by decide) : L[m].1.nm ≠ L[k].1.nm))
                  obtain ⟨d, hd⟩ : ∃ d, sEq L[k].1.nm L[i].1.nm = d := ⟨_, rfl⟩
                  have HD := Lib.hid hd
                  unfold sEq at hd
                  generalize L[k].1.nm = nk at *
                  generalize L[i].1.nm = ni at *
                  clear hcl hcl'
                  cases d
                  · have HY2 := Lib.hid (HY.out HD.out)
                    clear HX HY
                    go_wp2_with fail
                    refine wp_region_quiet_below (by kernel_rfl) (by kernel_rfl) ?_
                    repeat (go_big_quiet_step (fail))
                    refine wpQuiet_nil ?_
                    intro _ hw'
                    obtain ⟨⟨dq, osq⟩, hw''⟩ := hw'
                    subst hw''
                    have HBW := Lib.hid (HBV.out.trans ((below_regrown wr dq osq).mono HBV.out.size))
                    clear k7 c0 c1
                    generalize Sort.grow (redrawn wr dq) osq = wq at *
                    go_wp2_with fail
                    refine ⟨⟨i + 1, by omega, by go_num, HBW.out, HY2.out⟩, ?_⟩
                    simp [intJ]; omega
                  · have HX2 := Lib.hid (HX.out HD.out)
                    clear HX HY
                    go_wp2_with fail
                    refine wp_region_quiet_below (by kernel_rfl) (by kernel_rfl) ?_
                    repeat (go_big_quiet_step (fail))
                    refine wpQuiet_nil ?_
                    intro _ hw'
                    obtain ⟨⟨dq, osq⟩, hw''⟩ := hw'
                    subst hw''
                    have HBW := Lib.hid (HBV.out.trans ((below_regrown wr dq osq).mono HBV.out.size))
                    clear k7 c0 c1
                    generalize Sort.grow (redrawn wr dq) osq = wq at *
                    go_wp2_with fail
                    go_ret
                    exact ⟨ret_i64 HX2.out.symm, HB2.out.trans (HBW.out.mono HB2.out.size)⟩
                · obtain hik2 : i = k := by omega
                  have HY2 := Lib.hid (fun m (h : m < k + 1) => (by
                    rcases Nat.lt_or_ge m k with h4 | h4
                    · exact HOK.out m h4
                    · obtain rfl : m = k := by omega
                      exact fun q hq _ hqm => HNE.out q hq (by omega) : newN L m))
                  subst hik2
                  clear HOK HNE
                  go_wp2_with fail
                  refine ⟨⟨i + 1, by omega, by go_num, HBV.out, HY2.out⟩, ?_⟩
                  simp [intJ]; omega
            · obtain hkn : k = cn := by omega
              have HNW : Hid (∀ i, i < L.length → newN L i) := Lib.hid (fun i hi => HOK.out i (by have := HN.out; omega))
              subst hkn
              clear HOK
              go_wp2_with fail
              go_loopw [6] (fun s6 wr => ∃ i : Nat, i ≤ k ∧ s6 = .int .i64 i ∧ Below w2.heap.size w2 wr ∧ ∀ m (hm : m < L.length), m < i → okJ L[m] = true) (fun s6 _ => k - intJ s6)
              case atStart => exact ⟨0, Nat.zero_le _, rfl, HBR.out, fun i _ h => absurd h (Nat.not_lt_zero _)⟩
              case round =>
                clear k7
                obtain ⟨i, hi, rfl, hbv, hne⟩ := hrel
                have HNE := Lib.hid hne
                have HBV := Lib.hid hbv
                clear hne hbv
                rcases Nat.lt_or_ge i k with hik | hik
                · have hil : i < L.length := by have := HN.out; omega
                  have HAV := Lib.hid (HA2.out.below HBV.out)
                  obtain ⟨⟨j, l⟩, hjl⟩ : ∃ x, L[i]? = some x := ⟨_, List.getElem?_eq_getElem hil⟩
                  obtain ⟨b, off, rfl, hcl, hpi⟩ := HAV.out.in_.at_ i hil
                  have h9 := HAV.out.p9 i hil
                  have hx := (List.getElem?_eq_some_iff.1 hjl).2
                  rw [hx] at hcl hpi h9
                  have hja : JbAt wr b (off + i * 30) j := hcl
                  have hpa := hpi.arg h9 HAV.out.st HAV.out.tab
                  have LP := Lib.hid hja.plan
                  have C1 := Lib.hid (rplck_ok j.p l wr hpa)
                  have k7 : wr.cell? ⟨w.heap.size, 7, none⟩ = some (.slice (some ⟨b, off, none⟩) k cc) := (HBX2.out.below HBV.out HBX2.out.lt).cell 7
                  have hbl : b < wr.heap.size := World.block_lt_of_cell? _ _ hja.name
                  have HJA := Lib.hid (fun W (h : Below wr.heap.size wr W) => (hja.below h hbl).pol)
                  have C2 := Lib.hid (fun W => rpol_ok j.y W)
                  have HOJ : Hid (okJ L[i] = (decide (plE j.p l = 0) && poB j.y)) := Lib.hid (by rw [hx]; rfl)
                  have HX := Lib.hid (fun (he : okJ L[i] = false) => J16.out HN1.out HNW.out (fun hh => by have := hh i hil; rw [he] at this; cases this))
                  have HY := Lib.hid (fun (he : okJ L[i] = true) m (hm : m < L.length) (h : m < i + 1) => (by
                    rcases Nat.lt_or_ge m i with h4 | h4
                    · exact HNE.out m hm h4
                    · obtain rfl : m = i := by omega
                      exact he : okJ L[m] = true))
                  have hcs := plE_cases j.p l
                  generalize okJ L[i] = oj at *
                  generalize poB j.y = py at *
                  clear hcl hpi h9 hja hpa hx hjl
                  rcases hcs with he | he
                  · rw [he] at C1 HOJ
                    clear he
                    go_wp2_with (refine wpList_load_by rfl 29 _ rfl b (off + i * 30 + 1) (.agg (plV j.p)) rfl LP.out ?_)
                    refine (C1.out).mono ?_
                    rintro e_ w5 ⟨rfl, hb⟩
                    have HB5 := Lib.hid (HBV.out.trans (hb.mono HBV.out.size))
                    have LY := Lib.hid (HJA.out _ hb)
                    have k7 : w5.cell? ⟨w.heap.size, 7, none⟩ = some (.slice (some ⟨b, off, none⟩) k cc) := (HBX2.out.below HB5.out HBX2.out.lt).cell 7
                    clear hb
                    cases py
                    · have HX2 := Lib.hid (HX.out (by rw [HOJ.out]; simp))
                      have e0 : eB false = 16 := rfl
                      rw [e0] at C2
                      clear HX HY e0
                      go_wp2_with (refine wpList_load_if (by rfl) 68 _ rfl b (off + i * 30 + 15) (.agg (poV j.y)) rfl LY.out ?_)
                      refine (C2.out _).mono ?_
                      rintro e_ w6 ⟨rfl, hb⟩
                      have HB6 := Lib.hid (HB5.out.trans (hb.mono HB5.out.size))
                      clear hb
                      go_wp2_with fail
                      go_ret
                      exact ⟨ret_i64 HX2.out.symm, HB2.out.trans (HB6.out.mono HB2.out.size)⟩
                    · have HY2 := Lib.hid (HY.out (by rw [HOJ.out]; simp))
                      have e0 : eB true = 0 := rfl
                      rw [e0] at C2
                      clear HX HY e0
                      go_wp2_with (refine wpList_load_if (by rfl) 68 _ rfl b (off + i * 30 + 15) (.agg (poV j.y)) rfl LY.out ?_)
                      refine (C2.out _).mono ?_
                      rintro e_ w6 ⟨rfl, hb⟩
                      have HB6 := Lib.hid (HB5.out.trans (hb.mono HB5.out.size))
                      clear hb
                      go_wp2_with fail
                      refine ⟨⟨i + 1, by omega, by go_num, HB6.out, HY2.out⟩, ?_⟩
                      simp [intJ]; omega
                  · rw [he] at C1 HOJ
                    clear he
                    have HX2 := Lib.hid (HX.out (by rw [HOJ.out]; rfl))
                    clear HX HY
                    go_wp2_with (refine wpList_load_by rfl 29 _ rfl b (off + i * 30 + 1) (.agg (plV j.p)) rfl LP.out ?_)
                    refine (C1.out).mono ?_
                    rintro e_ w5 ⟨rfl, hb⟩
                    have HB5 := Lib.hid (HBV.out.trans (hb.mono HBV.out.size))
                    clear hb
                    go_wp2_with fail
                    go_ret
                    exact ⟨ret_i64 HX2.out.symm, HB2.out.trans (HB5.out.mono HB2.out.size)⟩
                · obtain hik2 : i = k := by omega
                  have HAL : Hid (allOk L) := Lib.hid (fun m hm => HNE.out m hm (by have := HN.out; omega))
                  have HZ2 := Lib.hid (JZ.out HN1.out HNW.out HAL.out)
                  have k7 : wr.cell? ⟨w.heap.size, 7, none⟩ = some (.slice ca k cc) := (HBX2.out.below HBV.out HBX2.out.lt).cell 7
                  subst hik2
                  clear HNE
                  go_wp2_with fail
                  go_ret
                  exact ⟨ret_i64 HZ2.out.symm, HB2.out.trans (HBV.out.mono HB2.out.size)⟩
end Go.Proofs.YtmdjfjdlehdhjaaGreatDoor.BW
