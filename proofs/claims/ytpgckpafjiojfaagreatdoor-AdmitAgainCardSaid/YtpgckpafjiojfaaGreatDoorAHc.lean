/- States of gates as rows; slices.Equal over them, and wakemanlaw35.equal. -/
import Derived.Test.YtpgckpafjiojfaaGreatDoorAHa
namespace Go.Proofs.YtpgckpafjiojfaaGreatDoor.AD
open Go Go.RowKit BW
open BK (Bx BoxAt Blk only_refl only_drew only_drewN only_setCell only_trans only_of_below only_alloc below_drewN)
/-- A row of times. -/
def RowL (W : World) (B : Nat) (a : Option Addr) (es : List Int) : Prop := 0 < es.length → ∃ b cs, a = some ⟨b, 0, none⟩ ∧ B ≤ b ∧ Blk W b 2 cs ∧ ∀ k (hk : k < es.length), cs[k]? = some (.int .i64 es[k])
/-- The state of a box, and a row of them. -/
abbrev BxQ := Int × Int × Int × Int
def RowB (W : World) (B : Nat) (a : Option Addr) (bs : List BxQ) : Prop := 0 < bs.length → ∃ b cs, a = some ⟨b, 0, none⟩ ∧ B ≤ b ∧ Blk W b 101 cs ∧ ∀ k (hk : k < bs.length), cs[k * 4]? = some (.int .i64 bs[k].1) ∧ cs[k * 4 + 1]? = some (.int .i64 bs[k].2.1) ∧ cs[k * 4 + 2]? = some (.int .i64 bs[k].2.2.1) ∧ cs[k * 4 + 3]? = some (.int .i64 bs[k].2.2.2)
theorem RowL.below {W W' : World} {B : Nat} {a : Option Addr} {es : List Int} (h : RowL W B a es) (hb : Below W.heap.size W W') : RowL W' B a es := fun h0 => by
  obtain ⟨b, cs, e, h1, h2, h3⟩ := h h0
  exact ⟨b, cs, e, h1, h2.below hb h2.lt, h3⟩
theorem RowB.below {W W' : World} {B : Nat} {a : Option Addr} {es : List BxQ} (h : RowB W B a es) (hb : Below W.heap.size W W') : RowB W' B a es := fun h0 => by
  obtain ⟨b, cs, e, h1, h2, h3⟩ := h h0
  exact ⟨b, cs, e, h1, h2.below hb h2.lt, h3⟩
theorem rows_take {α : Type} {l m : List α} {k : Nat} (h1 : k < l.length) (h2 : k < m.length) (h : l.take k = m.take k) (he : l[k] = m[k]) : l.take (k + 1) = m.take (k + 1) := by
  rw [List.take_add_one, List.take_add_one, List.getElem?_eq_getElem h1, List.getElem?_eq_getElem h2, h, he]
theorem rows_not {α : Type} [DecidableEq α] {l m : List α} {k : Nat} (h1 : k < l.length) (h2 : k < m.length) (he : l[k] ≠ m[k]) : decide (l = m) = false := by
  apply decide_eq_false
  rintro rfl
  exact he rfl
def bxEq (x y : BxQ) : Bool := (x.1 == y.1) && ((x.2.1 == y.2.1) && ((x.2.2.1 == y.2.2.1) && (x.2.2.2 == y.2.2.2)))
theorem bxEq_iff {x y : BxQ} : bxEq x y = true ↔ x = y := by
  obtain ⟨a, b, c, d⟩ := x
  obtain ⟨a', b', c', d'⟩ := y
  unfold bxEq
  simp [Prod.ext_iff]
theorem bxs_run (x y : BxQ) (w : World) : (binOp .neq 101 (.agg #[.int .i64 x.1, .int .i64 x.2.1, .int .i64 x.2.2.1, .int .i64 x.2.2.2]) (.agg #[.int .i64 y.1, .int .i64 y.2.1, .int .i64 y.2.2.1, .int .i64 y.2.2.2])).run Tryz.prog w = .ok (.bool (!bxEq x y)) w := by
  obtain ⟨a, b, c, d⟩ := x
  obtain ⟨a', b', c', d'⟩ := y
  have h1 : Tryz.prog.underlying 101 = some (.struct (Tryz.prog.fieldsOf 101)) := by kernel_rfl
  have h2 : Tryz.prog.stoodInHeld 101 = false := by kernel_rfl
  rw [run_neq_struct, run_equalIn_agg _ _ _ _ _ h1 h2]
  simp [go_sem, bxEq]
  by_cases e0 : a = a'
  case neg => simp [e0]
  try simp only [e0, if_true]
  by_cases e1 : b = b'
  case neg => simp [e1]
  try simp only [e1, if_true]
  by_cases e2 : c = c'
  case neg => simp [e2]
  try simp only [e2, if_true]
  by_cases e3 : d = d'
  case neg => simp [e3]
  try simp only [e3, if_true]
  try simp
set_option maxHeartbeats 2000000 in
set_option maxRecDepth 8000 in
theorem eqI_ok {B1 B2 : Nat} (l m : List Int) (a b : Option Addr) (c c2 : Nat) (h9 : l.length ≤ 9223372036854775806) (h92 : m.length ≤ 9223372036854775807) (w : World) (h : RowI w B1 a l) (h2 : RowI w B2 b m) : Calls Tryz.prog 82 #[.slice a l.length c, .slice b m.length c2] w fun e w' => e = .returned (.bool (decide (l = m))) ∧ Below w.heap.size w w' := by
  obtain ⟨n, hn⟩ : ∃ n, n = l.length := ⟨_, rfl⟩
  obtain ⟨n2, hn2⟩ : ∃ n, n = m.length := ⟨_, rfl⟩
  rw [← hn] at h9 ⊢
  rw [← hn2] at h92 ⊢
  by_cases hnn : n = n2
  · subst hnn
    have HN := Lib.hid hn
    have HN2 := Lib.hid hn2
    have HA := Lib.hid h
    have HB := Lib.hid h2
    clear hn hn2 h h2
    go_enter Tryz.func82, Tryz.ntmps82
    go_wp2_with fail
    go_loopw [13] (fun s13 wr => ∃ k : Nat, s13 = .int .i64 k ∧ k ≤ n ∧ Hid (l.take k = m.take k) ∧ Below w.heap.size w wr) (fun s13 _ => n - (intOf s13).toNat)
    case atStart => exact ⟨0, rfl, Nat.zero_le _, Lib.hid rfl, Below.refl _ _⟩
    case round =>
      obtain ⟨k, rfl, hk, HT, hB⟩ := hrel
      have HW := Lib.hid hB
      have HA' := Lib.hid (HA.out.below hB)
      have HB' := Lib.hid (HB.out.below hB)
      clear hB
      by_cases hkn : k < n
      · have hk1 : k < l.length := by rw [← HN.out]; exact hkn
        have hk2 : k < m.length := by rw [← HN2.out]; exact hkn
        obtain ⟨b1, cs1, rfl, -, g1, r1⟩ := HA'.out (by omega)
        obtain ⟨b2, cs2, rfl, -, g2, r2⟩ := HB'.out (by omega)
        have p1 := (g1.cell k).trans (r1 k hk1)
        have p2 := (g2.cell k).trans (r2 k hk2)
        have hw1 : IntKind.i64.wrap ((k : Int) + 1) = (k : Int) + 1 := IntWalk.i64_in _ (by omega)
        have HY := Lib.hid (fun he => rows_take hk1 hk2 HT.out he)
        have HX := Lib.hid (fun he => rows_not hk1 hk2 he)
        clear g1 r1 g2 r2
        generalize l[k] = x at *
        generalize m[k] = y at *
        obtain ⟨q, hq0⟩ : ∃ q, (x == y) = q := ⟨_, rfl⟩
        have hq1 : (x != y) = !q := by rw [bne, hq0]
        have HQ : Hid ((q = true → x = y) ∧ (q = false → x ≠ y)) := Lib.hid ⟨fun h => beq_iff_eq.1 (hq0.trans h), fun h e => by rw [e, beq_self_eq_true] at hq0; rw [← hq0] at h; cases h⟩
        clear hk1 hk2
        cases q with
        | true =>
          go_wp2_with fail
          go_quiet (fail)
          go_wp2_with fail
          refine ⟨⟨k + 1, rfl, by omega, Lib.hid (HY.out (HQ.out.1 trivial)), below_drewN HW.out nq⟩, ?_⟩
          show n - (k + 1) < n - k
          omega
        | false =>
          go_wp2_with fail
          go_quiet (fail)
          go_wp2_with fail
          go_ret
          exact ⟨retB (HX.out (HQ.out.2 trivial)).symm, below_drewN HW.out nq⟩
      · obtain rfl : k = n := by omega
        have HE : Hid (decide (l = m) = true) := Lib.hid (decide_eq_true (by
          have := HT.out
          rwa [List.take_of_length_le (by rw [← HN.out]; exact Nat.le_refl _), List.take_of_length_le (by rw [← HN2.out]; exact Nat.le_refl _)] at this))
        go_wp2_with fail
        go_ret
        exact ⟨retB HE.out.symm, HW.out⟩
  · have hd : Hid (decide (l = m) = false) := Lib.hid (decide_eq_false (by rintro rfl; exact hnn (hn.trans hn2.symm)))
    have hnn' : ¬ (n : Int) = (n2 : Int) := by omega
    clear hn hn2 h h2
    go_enter Tryz.func82, Tryz.ntmps82
    go_wp2_with fail
    go_ret
    exact ⟨retB hd.out.symm, Below.refl _ _⟩
set_option maxHeartbeats 2000000 in
set_option maxRecDepth 8000 in
theorem eqL_ok {B1 B2 : Nat} (l m : List Int) (a b : Option Addr) (c c2 : Nat) (h9 : l.length ≤ 9223372036854775806) (h92 : m.length ≤ 9223372036854775807) (w : World) (h : RowL w B1 a l) (h2 : RowL w B2 b m) : Calls Tryz.prog 83 #[.slice a l.length c, .slice b m.length c2] w fun e w' => e = .returned (.bool (decide (l = m))) ∧ Below w.heap.size w w' := by
  obtain ⟨n, hn⟩ : ∃ n, n = l.length := ⟨_, rfl⟩
  obtain ⟨n2, hn2⟩ : ∃ n, n = m.length := ⟨_, rfl⟩
  rw [← hn] at h9 ⊢
  rw [← hn2] at h92 ⊢
  by_cases hnn : n = n2
  · subst hnn
    have HN := Lib.hid hn
    have HN2 := Lib.hid hn2
    have HA := Lib.hid h
    have HB := Lib.hid h2
    clear hn hn2 h h2
    go_enter Tryz.func83, Tryz.ntmps83
    go_wp2_with fail
    go_loopw [13] (fun s13 wr => ∃ k : Nat, s13 = .int .i64 k ∧ k ≤ n ∧ Hid (l.take k = m.take k) ∧ Below w.heap.size w wr) (fun s13 _ => n - (intOf s13).toNat)
    case atStart => exact ⟨0, rfl, Nat.zero_le _, Lib.hid rfl, Below.refl _ _⟩
    case round =>
      obtain ⟨k, rfl, hk, HT, hB⟩ := hrel
      have HW := Lib.hid hB
      have HA' := Lib.hid (HA.out.below hB)
      have HB' := Lib.hid (HB.out.below hB)
      clear hB
      by_cases hkn : k < n
      · have hk1 : k < l.length := by rw [← HN.out]; exact hkn
        have hk2 : k < m.length := by rw [← HN2.out]; exact hkn
        obtain ⟨b1, cs1, rfl, -, g1, r1⟩ := HA'.out (by omega)
        obtain ⟨b2, cs2, rfl, -, g2, r2⟩ := HB'.out (by omega)
        have p1 := (g1.cell k).trans (r1 k hk1)
        have p2 := (g2.cell k).trans (r2 k hk2)
        have hw1 : IntKind.i64.wrap ((k : Int) + 1) = (k : Int) + 1 := IntWalk.i64_in _ (by omega)
        have HY := Lib.hid (fun he => rows_take hk1 hk2 HT.out he)
        have HX := Lib.hid (fun he => rows_not hk1 hk2 he)
        clear g1 r1 g2 r2
        generalize l[k] = x at *
        generalize m[k] = y at *
        obtain ⟨q, hq0⟩ : ∃ q, (x == y) = q := ⟨_, rfl⟩
        have hq1 : (x != y) = !q := by rw [bne, hq0]
        have HQ : Hid ((q = true → x = y) ∧ (q = false → x ≠ y)) := Lib.hid ⟨fun h => beq_iff_eq.1 (hq0.trans h), fun h e => by rw [e, beq_self_eq_true] at hq0; rw [← hq0] at h; cases h⟩
        clear hk1 hk2
        cases q with
        | true =>
          go_wp2_with fail
          go_quiet (fail)
          go_wp2_with fail
          refine ⟨⟨k + 1, rfl, by omega, Lib.hid (HY.out (HQ.out.1 trivial)), below_drewN HW.out nq⟩, ?_⟩
          show n - (k + 1) < n - k
          omega
        | false =>
          go_wp2_with fail
          go_quiet (fail)
          go_wp2_with fail
          go_ret
          exact ⟨retB (HX.out (HQ.out.2 trivial)).symm, below_drewN HW.out nq⟩
      · obtain rfl : k = n := by omega
        have HE : Hid (decide (l = m) = true) := Lib.hid (decide_eq_true (by
          have := HT.out
          rwa [List.take_of_length_le (by rw [← HN.out]; exact Nat.le_refl _), List.take_of_length_le (by rw [← HN2.out]; exact Nat.le_refl _)] at this))
        go_wp2_with fail
        go_ret
        exact ⟨retB HE.out.symm, HW.out⟩
  · have hd : Hid (decide (l = m) = false) := Lib.hid (decide_eq_false (by rintro rfl; exact hnn (hn.trans hn2.symm)))
    have hnn' : ¬ (n : Int) = (n2 : Int) := by omega
    clear hn hn2 h h2
    go_enter Tryz.func83, Tryz.ntmps83
    go_wp2_with fail
    go_ret
    exact ⟨retB hd.out.symm, Below.refl _ _⟩
set_option maxHeartbeats 2000000 in
set_option maxRecDepth 8000 in
theorem eqB_ok {B1 B2 : Nat} (l m : List BxQ) (a b : Option Addr) (c c2 : Nat) (h9 : l.length ≤ 9223372036854775806) (h92 : m.length ≤ 9223372036854775807) (w : World) (h : RowB w B1 a l) (h2 : RowB w B2 b m) : Calls Tryz.prog 97 #[.slice a l.length c, .slice b m.length c2] w fun e w' => e = .returned (.bool (decide (l = m))) ∧ Below w.heap.size w w' := by
  obtain ⟨n, hn⟩ : ∃ n, n = l.length := ⟨_, rfl⟩
  obtain ⟨n2, hn2⟩ : ∃ n, n = m.length := ⟨_, rfl⟩
  rw [← hn] at h9 ⊢
  rw [← hn2] at h92 ⊢
  by_cases hnn : n = n2
  · subst hnn
    have HN := Lib.hid hn
    have HN2 := Lib.hid hn2
    have HA := Lib.hid h
    have HB := Lib.hid h2
    clear hn hn2 h h2
    go_enter Tryz.func97, Tryz.ntmps97
    go_wp2_with fail
    go_loopw [13] (fun s13 wr => ∃ k : Nat, s13 = .int .i64 k ∧ k ≤ n ∧ Hid (l.take k = m.take k) ∧ Below w.heap.size w wr) (fun s13 _ => n - (intOf s13).toNat)
    case atStart => exact ⟨0, rfl, Nat.zero_le _, Lib.hid rfl, Below.refl _ _⟩
    case round =>
      obtain ⟨k, rfl, hk, HT, hB⟩ := hrel
      have HW := Lib.hid hB
      have HA' := Lib.hid (HA.out.below hB)
      have HB' := Lib.hid (HB.out.below hB)
      clear hB
      by_cases hkn : k < n
      · have hk1 : k < l.length := by rw [← HN.out]; exact hkn
        have hk2 : k < m.length := by rw [← HN2.out]; exact hkn
        obtain ⟨b1, cs1, rfl, -, g1, r1⟩ := HA'.out (by omega)
        obtain ⟨b2, cs2, rfl, -, g2, r2⟩ := HB'.out (by omega)
        have p1 := (g1.cell _).trans (r1 k hk1).1
        have p2 := (g1.cell _).trans (r1 k hk1).2.1
        have p3 := (g1.cell _).trans (r1 k hk1).2.2.1
        have p4 := (g1.cell _).trans (r1 k hk1).2.2.2
        have p5 := (g2.cell _).trans (r2 k hk2).1
        have p6 := (g2.cell _).trans (r2 k hk2).2.1
        have p7 := (g2.cell _).trans (r2 k hk2).2.2.1
        have p8 := (g2.cell _).trans (r2 k hk2).2.2.2
        have hw1 : IntKind.i64.wrap ((k : Int) + 1) = (k : Int) + 1 := IntWalk.i64_in _ (by omega)
        have HY := Lib.hid (fun he => rows_take hk1 hk2 HT.out he)
        have HX := Lib.hid (fun he => rows_not hk1 hk2 he)
        clear g1 r1 g2 r2
        generalize l[k] = x at *
        generalize m[k] = y at *
        obtain ⟨q, hq0⟩ : ∃ q, bxEq x y = q := ⟨_, rfl⟩
        have hq := bxs_run x y
        have hg : Tryz.prog.eqGuardType Tryz.prog.depth 101 = false := by kernel_rfl
        rw [hq0] at hq
        have HQ : Hid ((q = true → x = y) ∧ (q = false → x ≠ y)) := Lib.hid ⟨fun h => bxEq_iff.1 (hq0.trans h), fun h e => by rw [bxEq_iff.2 e] at hq0; rw [← hq0] at h; cases h⟩
        clear hk1 hk2
        cases q with
        | true =>
          go_wp2_with fail
          go_quiet (fail)
          go_wp2_with fail
          refine ⟨⟨k + 1, rfl, by omega, Lib.hid (HY.out (HQ.out.1 trivial)), below_drewN HW.out nq⟩, ?_⟩
          show n - (k + 1) < n - k
          omega
        | false =>
          go_wp2_with fail
          go_quiet (fail)
          go_wp2_with fail
          go_ret
          exact ⟨retB (HX.out (HQ.out.2 trivial)).symm, below_drewN HW.out nq⟩
      · obtain rfl : k = n := by omega
        have HE : Hid (decide (l = m) = true) := Lib.hid (decide_eq_true (by
          have := HT.out
          rwa [List.take_of_length_le (by rw [← HN.out]; exact Nat.le_refl _), List.take_of_length_le (by rw [← HN2.out]; exact Nat.le_refl _)] at this))
        go_wp2_with fail
        go_ret
        exact ⟨retB HE.out.symm, HW.out⟩
  · have hd : Hid (decide (l = m) = false) := Lib.hid (decide_eq_false (by rintro rfl; exact hnn (hn.trans hn2.symm)))
    have hnn' : ¬ (n : Int) = (n2 : Int) := by omega
    clear hn hn2 h h2
    go_enter Tryz.func97, Tryz.ntmps97
    go_wp2_with fail
    go_ret
    exact ⟨retB hd.out.symm, Below.refl _ _⟩
/-- A state's value. -/
structure StAt (W : World) (B : Nat) (v : Value) (rs ts : List Int) (bs : List BxQ) : Prop where
  e : ∃ a1 c1 a2 c2 a3 c3, v = .agg #[.slice a1 rs.length c1, .slice a2 ts.length c2, .slice a3 bs.length c3] ∧ RowI W B a1 rs ∧ RowL W B a2 ts ∧ RowB W B a3 bs
theorem StAt.below {W W' : World} {B : Nat} {v : Value} {rs ts : List Int} {bs : List BxQ} (h : StAt W B v rs ts bs) (hb : Below W.heap.size W W') : StAt W' B v rs ts bs := by
  obtain ⟨a1, c1, a2, c2, a3, c3, e, h1, h2, h3⟩ := h.e
  exact ⟨a1, c1, a2, c2, a3, c3, e, h1.below hb, h2.below hb, h3.below hb⟩
set_option maxHeartbeats 2000000 in
set_option maxRecDepth 8000 in
theorem gequal_ok {B1 B2 : Nat} {v v' : Value} {rs ts rs' ts' : List Int} {bs bs' : List BxQ} (w : World) (h : StAt w B1 v rs ts bs) (h' : StAt w B2 v' rs' ts' bs') (hl : rs.length ≤ 9223372036854775806 ∧ ts.length ≤ 9223372036854775806 ∧ bs.length ≤ 9223372036854775806) (hl' : rs'.length ≤ 9223372036854775806 ∧ ts'.length ≤ 9223372036854775806 ∧ bs'.length ≤ 9223372036854775806) :
    Calls Tryz.prog 37 #[v, v'] w fun e w' => e = .returned (.bool (decide (rs = rs') && (decide (ts = ts') && decide (bs = bs')))) ∧ Below w.heap.size w w' := by
  obtain ⟨a1, c1, a2, c2, a3, c3, rfl, h1, h2, h3⟩ := h.e
  obtain ⟨d1, e1, d2, e2, d3, e3, rfl, k1, k2, k3⟩ := h'.e
  have E1 := Lib.hid (fun W (hb : Below w.heap.size w W) => eqI_ok rs rs' a1 d1 c1 e1 hl.1 (Nat.le_succ_of_le hl'.1) W (h1.below hb) (k1.below hb))
  have E2 := Lib.hid (fun W (hb : Below w.heap.size w W) => eqL_ok ts ts' a2 d2 c2 e2 hl.2.1 (Nat.le_succ_of_le hl'.2.1) W (h2.below hb) (k2.below hb))
  have E3 := Lib.hid (fun W (hb : Below w.heap.size w W) => eqB_ok bs bs' a3 d3 c3 e3 hl.2.2 (Nat.le_succ_of_le hl'.2.2) W (h3.below hb) (k3.below hb))
  generalize decide (rs = rs') = q1 at *
  generalize decide (ts = ts') = q2 at *
  generalize decide (bs = bs') = q3 at *
  generalize rs.length = n1 at *
  generalize ts.length = n2 at *
  generalize bs.length = n3 at *
  generalize rs'.length = m1 at *
  generalize ts'.length = m2 at *
  generalize bs'.length = m3 at *
  obtain ⟨W1, hW1⟩ : ∃ W1, W1 = (w.alloc (.cells #[.slice a1 n1 c1, .slice a2 n2 c2, .slice a3 n3 c3] 91)).alloc (.cells #[.slice d1 m1 e1, .slice d2 m2 e2, .slice d3 m3 e3] 91) := ⟨_, rfl⟩
  have BA := Lib.hid (show Blk W1 w.heap.size 91 #[.slice a1 n1 c1, .slice a2 n2 c2, .slice a3 n3 c3] by rw [hW1]; exact (Blk.new _ _ _).alloc _)
  have BB := Lib.hid (show Blk W1 (w.heap.size + 1) 91 #[.slice d1 m1 e1, .slice d2 m2 e2, .slice d3 m3 e3] by rw [hW1]; exact blk_newAt (by simp))
  have HB := Lib.hid (show Below w.heap.size w W1 by rw [hW1]; exact two_boxes w _ _)
  clear h h' h1 h2 h3 k1 k2 k3 hl hl'
  go_enter Tryz.func37, Tryz.ntmps37
  go_upto_region 1 with fail
  rw [← hW1]
  clear hW1
  have p0 : W1.cell? ⟨w.heap.size, 0, none⟩ = some (.slice a1 n1 c1) := BA.out.cell 0
  have p1 : W1.cell? ⟨w.heap.size + 1, 0, none⟩ = some (.slice d1 m1 e1) := BB.out.cell 0
  go_wp2_with fail
  refine (E1.out W1 HB.out).mono ?_
  rintro e_ w2 ⟨rfl, hb⟩
  have BA2 := Lib.hid (BA.out.below hb BA.out.lt)
  have BB2 := Lib.hid (BB.out.below hb BB.out.lt)
  have HB2 := Lib.hid (HB.out.trans (hb.mono HB.out.size))
  clear hb p0 p1 BA BB HB
  cases q1
  · go_wp2_with fail
    go_ret
    exact ⟨rfl, HB2.out⟩
  · have p0 : w2.cell? ⟨w.heap.size, 1, none⟩ = some (.slice a2 n2 c2) := BA2.out.cell 1
    have p1 : w2.cell? ⟨w.heap.size + 1, 1, none⟩ = some (.slice d2 m2 e2) := BB2.out.cell 1
    go_wp2_with fail
    refine (E2.out w2 HB2.out).mono ?_
    rintro e_ w3 ⟨rfl, hb⟩
    have BA3 := Lib.hid (BA2.out.below hb BA2.out.lt)
    have BB3 := Lib.hid (BB2.out.below hb BB2.out.lt)
    have HB3 := Lib.hid (HB2.out.trans (hb.mono HB2.out.size))
    clear hb p0 p1 BA2 BB2 HB2
    cases q2
    · go_wp2_with fail
      go_ret
      exact ⟨rfl, HB3.out⟩
    · have p0 : w3.cell? ⟨w.heap.size, 2, none⟩ = some (.slice a3 n3 c3) := BA3.out.cell 2
      have p1 : w3.cell? ⟨w.heap.size + 1, 2, none⟩ = some (.slice d3 m3 e3) := BB3.out.cell 2
      go_wp2_with fail
      refine (E3.out w3 HB3.out).mono ?_
      rintro e_ w4 ⟨rfl, hb⟩
      have HB4 := Lib.hid (HB3.out.trans (hb.mono HB3.out.size))
      clear hb
      go_wp2_with fail
      go_ret
      exact ⟨retB (by simp), HB4.out⟩
end Go.Proofs.YtpgckpafjiojfaaGreatDoor.AD
