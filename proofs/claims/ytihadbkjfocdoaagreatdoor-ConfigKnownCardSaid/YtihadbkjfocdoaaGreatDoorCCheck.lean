/- Contract of config.Check. Contracts of the reference's CheckGlobals and Check. -/
import Derived.Test.YtihadbkjfocdoaaGreatDoorCJob
namespace Go.Proofs.YtihadbkjfocdoaaGreatDoor.BW
open Go.RowKit BM Go.Shelf MC RK
open BK hiding ret_bool ret_i64

/-- What Check knows of its memory while it asks the rules. -/
structure CkI (w : World) (c : Cf) (rb pb mb : Nat) (S : List ByteArray) (W : World) : Prop where
  box : Blk W w.heap.size 29 (cfV c)
  rules : Blk W rb 80 (rulesV pb)
  pbk : Blk W pb 100 #[.map (some mb)]
  set_ : SetAt W mb S
  below : Below w.heap.size w W
  hb : w.heap.size < mb
  h1 : rb ≠ mb
  h2 : pb ≠ mb
theorem CkI.next {w : World} {c : Cf} {rb pb mb : Nat} {S : List ByteArray} {X Y : World} (h : CkI w c rb pb mb S X) (hb : Below X.heap.size X Y) : CkI w c rb pb mb S Y :=
  ⟨h.box.below hb h.box.lt, h.rules.below hb h.rules.lt, h.pbk.below hb h.pbk.lt, h.set_.below hb, h.below.trans (hb.mono h.below.size), h.hb, h.h1, h.h2⟩
theorem CkI.put {w : World} {c : Cf} {rb pb mb : Nat} {S S' : List ByteArray} {X Y : World} (h : CkI w c rb pb mb S X) (hg : X.grownBy Y (some mb)) (hs : SetAt Y mb S') : CkI w c rb pb mb S' Y :=
  ⟨h.box.grown hg (by have := h.hb; simp; omega), h.rules.grown hg (by have := h.h1; simpa using this), h.pbk.grown hg (by have := h.h2; simpa using this), hs, h.below.trans (below_only hg h.below.size (Nat.le_of_lt h.hb)), h.hb, h.h1, h.h2⟩
/-- The names of the first k jobs, the last one first. -/
def nmsR (L : JL) (k : Nat) : List ByteArray := ((L.take k).map fun x => x.1.nm).reverse
theorem nmsR_succ {L : JL} {k : Nat} {j : Jb} {l : List (Int × Int)} (h : L[k]? = some (j, l)) : nmsR L (k + 1) = j.nm :: nmsR L k := by
  obtain ⟨hk, hx⟩ := List.getElem?_eq_some_iff.1 h
  unfold nmsR
  rw [List.take_succ_eq_append_getElem hk, hx]
  simp
theorem nmsR_len {L : JL} {k : Nat} : (nmsR L k).length ≤ k := by
  unfold nmsR
  simp
  omega
theorem mem_nmsR {L : JL} {k : Nat} {s : ByteArray} : s ∈ nmsR L k ↔ ∃ i, ∃ hi : i < L.length, i < k ∧ L[i].1.nm = s := by
  unfold nmsR
  rw [List.mem_reverse, List.mem_map]
  constructor
  · rintro ⟨x, hx, rfl⟩
    obtain ⟨i, hi, rfl⟩ := List.getElem_of_mem hx
    simp at hi
    exact ⟨i, by omega, by omega, by simp⟩
  · rintro ⟨i, hi, hk, rfl⟩
    exact ⟨L[i], List.mem_take_iff_getElem.2 ⟨i, by omega, rfl⟩, rfl⟩
theorem new_iff {L : JL} {k : Nat} (hk : k < L.length) : newN L k ↔ L[k].1.nm ∉ nmsR L k := by
  rw [mem_nmsR]
  constructor
  · rintro h ⟨i, hi, hik, e⟩
    exact h i hi hk hik e
  · intro h i hi hk' hik e
    exact h ⟨i, hi, hik, e⟩
/-- Which jobs break the rules. -/
def Q1 (L : JL) (k : Nat) : Bool := match L[k]? with | some x => !nameB x.1.nm | none => false
noncomputable def Q2 (L : JL) (k : Nat) : Bool := match L[k]? with | some x => memB x.1.nm (nmsR L k) | none => false
def Q3 (L : JL) (k : Nat) : Bool := match L[k]? with | some x => !okJ x | none => false
theorem Q1_all {L : JL} (h : ∀ i, i < L.length → Q1 L i = false) : nmsOk L := fun k hk => by
  have := h k hk
  unfold Q1 at this
  rw [List.getElem?_eq_getElem hk] at this
  simpa using this
theorem Q1_not {L : JL} {k : Nat} (hk : k < L.length) (h : Q1 L k = true) : ¬ nmsOk L := fun hh => by
  have := hh k hk
  unfold Q1 at h
  rw [List.getElem?_eq_getElem hk] at h
  simp [this] at h
theorem Q2_all {L : JL} (h : ∀ i, i < L.length → Q2 L i = false) : ∀ i, i < L.length → newN L i := fun k hk => by
  have := h k hk
  unfold Q2 at this
  rw [List.getElem?_eq_getElem hk] at this
  rw [new_iff hk]
  intro hm
  have this : memB L[k].1.nm (nmsR L k) = false := this
  rw [memB_iff.2 hm] at this
  cases this
theorem Q2_not {L : JL} {k : Nat} (hk : k < L.length) (h : Q2 L k = true) : ¬ newN L k := fun hh => by
  unfold Q2 at h
  rw [List.getElem?_eq_getElem hk] at h
  exact (new_iff hk).1 hh (memB_iff.1 h)
theorem Q3_all {L : JL} (h : ∀ i, i < L.length → Q3 L i = false) : allOk L := fun k hk => by
  have := h k hk
  unfold Q3 at this
  rw [List.getElem?_eq_getElem hk] at this
  simpa using this
theorem Q3_not {L : JL} {k : Nat} (hk : k < L.length) (h : Q3 L k = true) : ¬ allOk L := fun hh => by
  have := hh k hk
  unfold Q3 at h
  rw [List.getElem?_eq_getElem hk] at h
  simp [this] at h
theorem ent52 : ∀ args w, (callFunc 30 args).run Tryz.prog w = .ok (.enter 30 args) w := enters_of Tryz.func30 (by kernel_rfl) rfl
theorem ent83 : ∀ args w, (callFunc 44 args).run Tryz.prog w = .ok (.enter 44 args) w := enters_of Tryz.func44 (by kernel_rfl) rfl
theorem ent85 : ∀ args w, (callFunc 46 args).run Tryz.prog w = .ok (.enter 46 args) w := enters_of Tryz.func46 (by kernel_rfl) rfl
theorem ent86 : ∀ args w, (callFunc 47 args).run Tryz.prog w = .ok (.enter 47 args) w := enters_of Tryz.func47 (by kernel_rfl) rfl
/-- The first rule asked of all jobs. -/
theorem ask1_ok (c : Cf) (L : JL) (X : World) (q : Nat) (hA : CArg X c L) (hq : Blk X q 80 #[f1V, .int .i64 15]) :
    Calls Tryz.prog 29 #[.slice c.a c.n c.c, .func (.func 30) #[] #[.pointer (some ⟨q, 0, none⟩)]] X fun e w' => (e = .returned (.bool true) ∧ ¬ nmsOk L ∧ Below X.heap.size X w') ∨ (e = .returned (.bool false) ∧ nmsOk L ∧ Below X.heap.size X w') := by
  refine (cfj_ok L c.a c.n c.c hA.in_.n hA.n9 _ q ent52 (fun _ W => Below X.heap.size X W) (Q1 L) (fun k W h => (hA.below h).in_.at_) (fun k j l W hjl h => ?_) X (Below.refl _ _)).mono ?_
  · have hQ : Q1 L k = !nameB j.nm := by unfold Q1; rw [hjl]
    rw [hQ]
    refine chk1a_ok j q _ 15 ent83 (nameB j.nm) _ W (hq.below h hq.lt) ((rule1_ok j _).mono ?_)
    rintro e w' ⟨rfl, hb⟩
    have h2 := h.alloc h.size (.cells (jbV j) 60)
    exact ⟨rfl, h2.trans (hb.mono h2.size)⟩
  · rintro e w' (⟨rfl, k, hk, h1, _, h3⟩ | ⟨rfl, h1, h2⟩)
    · exact .inl ⟨rfl, Q1_not (by rw [hA.in_.n]; exact hk) h1, h3⟩
    · exact .inr ⟨rfl, Q1_all (by rw [hA.in_.n]; exact h1), h2⟩
theorem ask3_ok (c : Cf) (L : JL) (X : World) (q : Nat) (hA : CArg X c L) (hq : Blk X q 80 #[f3V, .int .i64 16]) :
    Calls Tryz.prog 29 #[.slice c.a c.n c.c, .func (.func 30) #[] #[.pointer (some ⟨q, 0, none⟩)]] X fun e w' => (e = .returned (.bool true) ∧ ¬ allOk L ∧ Below X.heap.size X w') ∨ (e = .returned (.bool false) ∧ allOk L ∧ Below X.heap.size X w') := by
  refine (cfj_ok L c.a c.n c.c hA.in_.n hA.n9 _ q ent52 (fun _ W => Below X.heap.size X W) (Q3 L) (fun k W h => (hA.below h).in_.at_) (fun k j l W hjl h => ?_) X (Below.refl _ _)).mono ?_
  · have hQ : Q3 L k = !okJ (j, l) := by unfold Q3; rw [hjl]
    rw [hQ]
    have h2 := h.alloc h.size (.cells (jbV j) 60)
    have hA2 := hA.below h2
    obtain ⟨hk, hx⟩ := List.getElem?_eq_some_iff.1 hjl
    obtain ⟨_, _, _, _, hpi⟩ := hA2.in_.at_ k hk
    have h9 := hA2.p9 k hk
    rw [hx] at hpi h9
    refine chk1a_ok j q _ 16 ent86 (okJ (j, l)) _ W (hq.below h hq.lt) ((rule3_ok j l _ (hpi.arg h9 hA2.st hA2.tab)).mono ?_)
    rintro e w' ⟨rfl, hb⟩
    exact ⟨rfl, h2.trans (hb.mono h2.size)⟩
  · rintro e w' (⟨rfl, k, hk, h1, _, h3⟩ | ⟨rfl, h1, h2⟩)
    · exact .inl ⟨rfl, Q3_not (by rw [hA.in_.n]; exact hk) h1, h3⟩
    · exact .inr ⟨rfl, Q3_all (by rw [hA.in_.n]; exact h1), h2⟩
theorem ask2_ok (w : World) (c : Cf) (L : JL) (rb pb mb q : Nat) (X : World) (hA : CArg w c L) (hN : nmsOk L) (hI : CkI w c rb pb mb [] X) (hq : Blk X q 80 #[f2V pb, .int .i64 6]) (hqm : q ≠ mb) :
    Calls Tryz.prog 29 #[.slice c.a c.n c.c, .func (.func 30) #[] #[.pointer (some ⟨q, 0, none⟩)]] X fun e w' => (e = .returned (.bool true) ∧ (∃ k, k < L.length ∧ ¬ newN L k) ∧ Below w.heap.size w w' ∧ Blk w' q 80 #[f2V pb, .int .i64 6]) ∨ (e = .returned (.bool false) ∧ (∀ i, i < L.length → newN L i) ∧ ∃ S, CkI w c rb pb mb S w') := by
  refine (cfj_ok L c.a c.n c.c hA.in_.n hA.n9 _ q ent52 (fun k W => CkI w c rb pb mb (nmsR L k) W ∧ Blk W q 80 #[f2V pb, .int .i64 6]) (Q2 L) (fun k W h => (hA.below h.1.below).in_.at_) (fun k j l W hjl h => ?_) X ⟨by unfold nmsR; simpa using hI, hq⟩).mono ?_
  · have hQ : Q2 L k = !!memB j.nm (nmsR L k) := by unfold Q2; rw [hjl, Bool.not_not]
    rw [hQ, nmsR_succ hjl]
    obtain ⟨hk, hx⟩ := List.getElem?_eq_some_iff.1 hjl
    have hj := hN k hk
    rw [hx] at hj
    have ha := (Below.refl _ W).alloc (Nat.le_refl _) (.cells (jbV j) 60)
    have h1 := h.1.next ha
    have hq1 := h.2.below ha h.2.lt
    refine chk1b_ok j q _ pb 6 ent85 (!memB j.nm (nmsR L k)) _ W h.2 ((rule2_ok j pb mb (nmsR L k) _ hj (by have := nmsR_len (L := L) (k := k); have := hA.n9; have := hA.in_.n; omega) h1.pbk h1.set_).mono ?_)
    rintro e w' ⟨rfl, hs, hg⟩
    exact ⟨rfl, h1.put hg hs, hq1.grown hg (by simpa using hqm)⟩
  · rintro e w' (⟨rfl, k, hk, h1, _, h3⟩ | ⟨rfl, h1, h2⟩)
    · exact .inl ⟨rfl, ⟨k, by rw [hA.in_.n]; exact hk, Q2_not (by rw [hA.in_.n]; exact hk) h1⟩, h3.1.below, h3.2⟩
    · exact .inr ⟨rfl, Q2_all (by rw [hA.in_.n]; exact h1), _, h2.1⟩
set_option maxRecDepth 8000 in
set_option maxHeartbeats 8000000 in
theorem ccheck_ok (c : Cf) (L : JL) (w : World) (hA : CArg w c L) : Calls Tryz.prog 12 #[.agg (cfV c)] w fun e w' => e = .returned (.int .i64 (cfE c.g L)) ∧ Below w.heap.size w w' := by
  have C0 := Lib.hid (fun W => glob_ok c.g W)
  have CR := Lib.hid (fun W => rules_ok W)
  have HBX := Lib.hid (Blk.new w 29 (cfV c))
  have HB := Lib.hid ((Below.refl _ w).alloc (Nat.le_refl _) (.cells (cfV c) 29))
  have HA := Lib.hid hA
  have HE : Hid (glB c.g = false → cfE c.g L = 16) := Lib.hid cfE_g
  have HM : Hid (glB c.g = true → 64 < c.n → cfE c.g L = 12) := Lib.hid (fun h hn => cfE_many h (by rw [hA.in_.n]; exact hn))
  have H15 : Hid (glB c.g = true → ¬ 64 < c.n → ¬ nmsOk L → cfE c.g L = 15) := Lib.hid (fun h hn => cfE_name h (by rw [hA.in_.n]; exact hn))
  have H6 : Hid (glB c.g = true → ¬ 64 < c.n → nmsOk L → (∃ k, k < L.length ∧ ¬ newN L k) → cfE c.g L = 6) := Lib.hid (fun h hn h1 ⟨k, hk, h2⟩ => cfE_have h (by rw [hA.in_.n]; exact hn) h1 hk h2)
  have H16 : Hid (glB c.g = true → ¬ 64 < c.n → nmsOk L → (∀ i, i < L.length → newN L i) → ¬ allOk L → cfE c.g L = 16) := Lib.hid (fun h hn h1 h2 h3 => cfE_rule h (by rw [hA.in_.n]; exact hn) h1 h2 h3)
  have HZ : Hid (glB c.g = true → ¬ 64 < c.n → nmsOk L → (∀ i, i < L.length → newN L i) → allOk L → cfE c.g L = 0) := Lib.hid (fun h hn h1 h2 h3 => cfE_ok h (by rw [hA.in_.n]; exact hn) h1 h2 h3)
  generalize cfE c.g L = E at *
  generalize glB c.g = gb at *
  rw [cfV_eq] at HBX HB ⊢
  unfold glV at C0
  clear hA
  cases gb
  · have HEE := Lib.hid (HE.out rfl)
    have e0 : eB false = 16 := rfl
    rw [e0] at C0
    clear HE HM H15 H6 H16 HZ e0
    go_enter Tryz.func12, Tryz.ntmps12
    go_wp2_with fail
    refine (C0.out _).mono ?_
    rintro e w2 ⟨rfl, hb⟩
    have HB2 := Lib.hid (HB.out.trans (Below.mono (w := w.alloc _) hb HB.out.size))
    clear hb
    go_wp2_with fail
    go_ret
    exact ⟨ret_i64 HEE.out.symm, HB2.out⟩
  · have e0 : eB true = 0 := rfl
    rw [e0] at C0
    by_cases h64 : 64 < c.n
    · have d1 : decide (64 < c.n) = true := decide_eq_true h64
      have d2 : decide ((64 : Int) < c.n) = true := decide_eq_true (by omega)
      have HEE := Lib.hid (HM.out rfl h64)
      clear HE HM H15 H6 H16 HZ e0 h64
      go_enter Tryz.func12, Tryz.ntmps12
      go_wp2_with fail
      refine (C0.out _).mono ?_
      rintro e w2 ⟨rfl, hb⟩
      have HBX2 := Lib.hid (Blk.below (w := w.alloc _) HBX.out hb HBX.out.lt)
      have HB2 := Lib.hid (HB.out.trans (Below.mono (w := w.alloc _) hb HB.out.size))
      have k7 : w2.cell? ⟨w.heap.size, 7, none⟩ = some (.slice c.a c.n c.c) := HBX2.out.cell 7
      clear hb
      go_wp2_with fail
      go_ret
      exact ⟨ret_i64 HEE.out.symm, HB2.out⟩
    · have d1 : decide (64 < c.n) = false := decide_eq_false h64
      have d2 : decide ((64 : Int) < c.n) = false := decide_eq_false (by omega)
      have JH15 := Lib.hid (H15.out rfl h64)
      have JH6 := Lib.hid (H6.out rfl h64)
      have JH16 := Lib.hid (H16.out rfl h64)
      have JHZ := Lib.hid (HZ.out rfl h64)
      clear HE HM H15 H6 H16 HZ e0 h64
      go_enter Tryz.func12, Tryz.ntmps12
      go_wp2_with fail
      refine (C0.out _).mono ?_
      rintro e w2 ⟨rfl, hb⟩
      have HBX2 := Lib.hid (Blk.below (w := w.alloc _) HBX.out hb HBX.out.lt)
      have HB2 := Lib.hid (HB.out.trans (Below.mono (w := w.alloc _) hb HB.out.size))
      have k7 : w2.cell? ⟨w.heap.size, 7, none⟩ = some (.slice c.a c.n c.c) := HBX2.out.cell 7
      clear hb
      go_wp2_with fail
      refine (CR.out _).mono ?_
      rintro e w3 ⟨rfl, hr, hp, hs, hb⟩
      have hlt := HBX2.out.lt
      have HI : Hid (CkI w c (w2.heap.size + 2) (w2.heap.size + 1) w2.heap.size [] w3) := Lib.hid ⟨HBX2.out.below hb HBX2.out.lt, hr, hp, hs, HB2.out.trans (hb.mono HB2.out.size), hlt, by omega, by omega⟩
      generalize w2.heap.size + 2 = rb at *
      generalize w2.heap.size + 1 = pb at *
      generalize w2.heap.size = mb at *
      clear hr hp hs hb hlt k7
      go_wp2_with fail
      go_loopw [18] (fun s18 wr => ∃ i : Nat, i ≤ 3 ∧ s18 = .int .i64 i ∧ (∃ S, CkI w c rb pb mb S wr ∧ (i ≤ 1 → S = [])) ∧ (1 ≤ i → nmsOk L) ∧ (2 ≤ i → ∀ k, k < L.length → newN L k) ∧ (3 ≤ i → allOk L)) (fun s18 _ => 3 - intJ s18)
      case atStart => exact ⟨0, by omega, rfl, ⟨[], HI.out, fun _ => rfl⟩, fun h => by omega, fun h => by omega, fun h => by omega⟩
      case round =>
        obtain ⟨i, hi, rfl, ⟨Sx, hI, hS⟩, h1, h2, h3⟩ := hrel
        have HX := Lib.hid (And.intro h1 (And.intro h2 (And.intro h3 hS)))
        have HIx := Lib.hid hI
        clear HI hI h1 h2 h3 hS
        have k7 : wr.cell? ⟨w.heap.size, 7, none⟩ = some (.slice c.a c.n c.c) := HIx.out.box.cell 7
        have hl1 := HIx.out.box.lt
        have hl2 := HIx.out.rules.lt
        obtain rfl | rfl | rfl | rfl : i = 0 ∨ i = 1 ∨ i = 2 ∨ i = 3 := by omega
        · have r0 : wr.cell? ⟨rb, 0, none⟩ = some (.func (.func 44) #[] #[]) := HIx.out.rules.cell 0
          have r1 : wr.cell? ⟨rb, 1, none⟩ = some (.int .i64 15) := HIx.out.rules.cell 1
          have hal := HIx.out.below.alloc HIx.out.below.size (.cells #[f1V, .int .i64 15] 80)
          have C1 := Lib.hid (ask1_ok c L (wr.alloc (.cells #[f1V, .int .i64 15] 80)) wr.heap.size (HA.out.below hal) (Blk.new wr _ _))
          have HQ := Lib.hid (Blk.new wr 80 #[f1V, .int .i64 15])
          have HI2 := Lib.hid (HIx.out.next ((Below.refl _ wr).alloc (Nat.le_refl _) (.cells #[f1V, .int .i64 15] 80)))
          unfold f1V at C1 HQ HI2
          clear hal
          go_wp2_with fail
          refine (C1.out).mono ?_
          rintro e w5 (⟨rfl, hn, hb⟩ | ⟨rfl, hn, hb⟩)
          · have HE2 := Lib.hid (JH15.out hn)
            have HB5 := Lib.hid (HI2.out.next hb).below
            have q1 : w5.cell? ⟨wr.heap.size, 1, none⟩ = some (.int .i64 15) := (Blk.below (w := wr.alloc _) HQ.out hb HQ.out.lt).cell 1
            clear hb hn
            go_wp2_with fail
            go_ret
            exact ⟨ret_i64 HE2.out.symm, HB5.out⟩
          · have HI5 := Lib.hid (HI2.out.next hb)
            have HN := Lib.hid hn
            clear hb hn
            go_wp2_with fail
            refine ⟨⟨1, by omega, by go_num, ⟨Sx, HI5.out, fun _ => HX.out.2.2.2 (by omega)⟩, fun _ => HN.out, fun h => by omega, fun h => by omega⟩, ?_⟩
            simp [intJ]
        · have r0 : wr.cell? ⟨rb, 2, none⟩ = some (.func (.func 46) #[] #[.pointer (some ⟨pb, 0, none⟩)]) := HIx.out.rules.cell 2
          have r1 : wr.cell? ⟨rb, 3, none⟩ = some (.int .i64 6) := HIx.out.rules.cell 3
          obtain rfl : Sx = [] := HX.out.2.2.2 (by omega)
          have hmb := HIx.out.set_.lt
          have HI2 := Lib.hid (HIx.out.next ((Below.refl _ wr).alloc (Nat.le_refl _) (.cells #[f2V pb, .int .i64 6] 80)))
          have C1 := Lib.hid (ask2_ok w c L rb pb mb wr.heap.size (wr.alloc (.cells #[f2V pb, .int .i64 6] 80)) HA.out (HX.out.1 (by omega)) HI2.out (Blk.new wr _ _) (by omega))
          unfold f2V at C1 HI2
          clear hmb
          go_wp2_with fail
          refine (C1.out).mono ?_
          rintro e w5 (⟨rfl, hn, hb, hq⟩ | ⟨rfl, hn, S5, hI5⟩)
          · have HE2 := Lib.hid (JH6.out (HX.out.1 (by omega)) hn)
            have HB5 := Lib.hid hb
            have q1 : w5.cell? ⟨wr.heap.size, 1, none⟩ = some (.int .i64 6) := hq.cell 1
            clear hb hn hq
            go_wp2_with fail
            go_ret
            exact ⟨ret_i64 HE2.out.symm, HB5.out⟩
          · have HI5 := Lib.hid hI5
            have HN := Lib.hid hn
            clear hI5 hn
            go_wp2_with fail
            refine ⟨⟨2, by omega, by go_num, ⟨S5, HI5.out, fun h => by omega⟩, fun _ => HX.out.1 (by omega), fun _ => HN.out, fun h => by omega⟩, ?_⟩
            simp [intJ]
        · have r0 : wr.cell? ⟨rb, 4, none⟩ = some (.func (.func 47) #[] #[]) := HIx.out.rules.cell 4
          have r1 : wr.cell? ⟨rb, 5, none⟩ = some (.int .i64 16) := HIx.out.rules.cell 5
          have hal := HIx.out.below.alloc HIx.out.below.size (.cells #[f3V, .int .i64 16] 80)
          have C1 := Lib.hid (ask3_ok c L (wr.alloc (.cells #[f3V, .int .i64 16] 80)) wr.heap.size (HA.out.below hal) (Blk.new wr _ _))
          have HQ := Lib.hid (Blk.new wr 80 #[f3V, .int .i64 16])
          have HI2 := Lib.hid (HIx.out.next ((Below.refl _ wr).alloc (Nat.le_refl _) (.cells #[f3V, .int .i64 16] 80)))
          unfold f3V at C1 HQ HI2
          clear hal
          go_wp2_with fail
          refine (C1.out).mono ?_
          rintro e w5 (⟨rfl, hn, hb⟩ | ⟨rfl, hn, hb⟩)
          · have HE2 := Lib.hid (JH16.out (HX.out.1 (by omega)) (HX.out.2.1 (by omega)) hn)
            have HB5 := Lib.hid (HI2.out.next hb).below
            have q1 : w5.cell? ⟨wr.heap.size, 1, none⟩ = some (.int .i64 16) := (Blk.below (w := wr.alloc _) HQ.out hb HQ.out.lt).cell 1
            clear hb hn
            go_wp2_with fail
            go_ret
            exact ⟨ret_i64 HE2.out.symm, HB5.out⟩
          · have HI5 := Lib.hid (HI2.out.next hb)
            have HN := Lib.hid hn
            clear hb hn
            go_wp2_with fail
            refine ⟨⟨3, by omega, by go_num, ⟨Sx, HI5.out, fun h => by omega⟩, fun _ => HX.out.1 (by omega), fun _ => HX.out.2.1 (by omega), fun _ => HN.out⟩, ?_⟩
            simp [intJ]
        · have HE2 := Lib.hid (JHZ.out (HX.out.1 (by omega)) (HX.out.2.1 (by omega)) (HX.out.2.2.1 (by omega)))
          have HB5 := Lib.hid HIx.out.below
          go_wp2_with fail
          go_ret
          exact ⟨ret_i64 HE2.out.symm, HB5.out⟩
end Go.Proofs.YtihadbkjfocdoaaGreatDoor.BW
namespace Go.Proofs.YtihadbkjfocdoaaGreatDoor.BW
open Go.RowKit BM Go.Shelf MC RK
open BK hiding ret_bool ret_i64

end Go.Proofs.YtihadbkjfocdoaaGreatDoor.BW
