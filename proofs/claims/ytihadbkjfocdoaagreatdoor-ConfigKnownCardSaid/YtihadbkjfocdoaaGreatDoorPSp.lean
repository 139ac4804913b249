/- Spans: where they lie, and what blackout.Check answers. Contracts of the reference's Check of spans, and of behind. Contract of blackout.In. Contract of blackout.In. Plain maths: the sweep over the borders of spans. Plain maths: the times of a span, as a list; how many there are, without those of other spans. -/
import Derived.Test.YtihadbkjfocdoaaGreatDoorPEv
namespace Go.Proofs.YtihadbkjfocdoaaGreatDoor.BW
open Go.RowKit BM Go.Shelf MC
open BK hiding ret_bool ret_i64

/-- The spans l lie at a, two cells each. -/
def SpansAt (w : World) (a : Option Addr) (l : List (Int × Int)) : Prop := ∀ k (hk : k < l.length), ∃ b off, a = some ⟨b, off, none⟩ ∧ w.cell? ⟨b, off + k * 2, none⟩ = some (.int .i64 l[k].1) ∧ w.cell? ⟨b, off + k * 2 + 1, none⟩ = some (.int .i64 l[k].2)
theorem SpansAt.below {w w' : World} {a : Option Addr} {l : List (Int × Int)} (h : SpansAt w a l) (hb : Below w.heap.size w w') : SpansAt w' a l := fun k hk => by
  obtain ⟨b, off, e, h1, h2⟩ := h k hk
  exact ⟨b, off, e, (hb.cell (p := ⟨b, off + k * 2, none⟩) (World.block_lt_of_cell? w _ h1)).trans h1, (hb.cell (p := ⟨b, off + k * 2 + 1, none⟩) (World.block_lt_of_cell? w _ h2)).trans h2⟩
def vT (t : Int) : Bool := decide (0 ≤ t) && decide (t ≤ 253402300799)
/-- The first error of spans. -/
def spL : List (Int × Int) → Int
  | [] => 0
  | s :: l => if vT s.1 && vT s.2 then (if s.2 < s.1 then 8 else spL l) else 14
def spE (l : List (Int × Int)) : Int := if 64 < l.length then 12 else spL l
theorem spL_drop {l : List (Int × Int)} {k : Nat} (hk : k < l.length) : spL (l.drop k) = if vT l[k].1 && vT l[k].2 then (if l[k].2 < l[k].1 then 8 else spL (l.drop (k + 1))) else 14 := by
  rw [List.drop_eq_getElem_cons hk]
  rfl
theorem spL_ok {l : List (Int × Int)} (h : spL l = 0) : ∀ s ∈ l, (0 ≤ s.1 ∧ s.1 ≤ s.2) ∧ s.2 ≤ 253402300799 := by
  induction l with
  | nil => intro s hs; cases hs
  | cons a l ih =>
    unfold spL at h
    by_cases h1 : (vT a.1 && vT a.2) = true
    · rw [if_pos h1] at h
      by_cases h2 : a.2 < a.1
      · rw [if_pos h2] at h; cases h
      · rw [if_neg h2] at h
        intro s hs
        rcases List.mem_cons.1 hs with rfl | hs
        · unfold vT at h1
          simp at h1
          omega
        · exact ih h s hs
    · rw [if_neg h1] at h; cases h
theorem bvalid_ok (t : Int) (w : World) : Calls Tryz.prog 83 #[.int .i64 t] w fun r w' => r = .returned (.bool (vT t)) ∧ w = w' := by
  by_cases h0 : 0 ≤ t
  · have d0 : decide (0 ≤ t) = true := decide_eq_true h0
    obtain ⟨d, hd⟩ : ∃ d, decide (t ≤ 253402300799) = d := ⟨_, rfl⟩
    have HV : Hid (vT t = d) := Lib.hid (by unfold vT; rw [d0, hd]; rfl)
    clear h0
    go_enter Tryz.func83, Tryz.ntmps83
    go_wp2_with fail
    go_ret
    exact ⟨ret_bool HV.out.symm, rfl⟩
  · have d0 : decide (0 ≤ t) = false := decide_eq_false h0
    have HV : Hid (vT t = false) := Lib.hid (by unfold vT; rw [d0]; rfl)
    clear h0
    go_enter Tryz.func83, Tryz.ntmps83
    go_wp2_with fail
    go_ret
    exact ⟨ret_bool HV.out.symm, rfl⟩
set_option maxRecDepth 8000 in
set_option maxHeartbeats 4000000 in
theorem bcheck_ok (l : List (Int × Int)) (a : Option Addr) (n c : Nat) (hn : l.length = n) (hn9 : n < 9223372036854775808) (w : World) (hl : SpansAt w a l) : Calls Tryz.prog 52 #[.slice a n c] w fun r w' => r = .returned (.int .i64 (spE l)) ∧ Below w.heap.size w w' := by
  have HL := Lib.hid hl
  have HN := Lib.hid hn
  have CV := Lib.hid (fun t w => bvalid_ok t w)
  have HS : Hid (spE l = if 64 < n then 12 else spL l) := Lib.hid (by unfold spE; rw [hn])
  generalize spE l = R at *
  clear hl hn
  by_cases h64 : 64 < n
  · have d1 : decide (64 < n) = true := decide_eq_true h64
    have d1' : decide ((64 : Int) < n) = true := decide_eq_true (by omega)
    have HR : Hid (R = 12) := Lib.hid (by rw [HS.out, if_pos h64])
    clear h64 CV
    go_enter Tryz.func52, Tryz.ntmps52
    go_wp2_with fail
    go_ret
    exact ⟨ret_i64 HR.out.symm, Below.refl _ _⟩
  · have d1 : decide (64 < n) = false := decide_eq_false h64
    have d1' : decide ((64 : Int) < n) = false := decide_eq_false (by omega)
    have HR : Hid (R = spL l) := Lib.hid (by rw [HS.out, if_neg h64])
    clear HS
    go_enter Tryz.func52, Tryz.ntmps52
    go_wp2_with fail
    go_loopw [10] (fun s10 wr => ∃ k : Nat, k ≤ n ∧ s10 = .int .i64 k ∧ Below w.heap.size w wr ∧ spL (l.drop k) = spL l) (fun s10 _ => n - intM s10)
    case atStart => exact ⟨0, Nat.zero_le _, rfl, Below.refl _ _, rfl⟩
    case round =>
      obtain ⟨k, hk, rfl, hB, hd⟩ := hrel
      have HD := Lib.hid hd
      have HB := Lib.hid hB
      clear hd
      rcases Nat.lt_or_ge k n with hlt | hge
      · have hkl : k < l.length := by have := HN.out; omega
        have HK := Lib.hid (spL_drop hkl)
        obtain ⟨b, off, rfl, h1, h2⟩ := HL.out k hkl
        have h1 := (hB.cell (p := ⟨b, off + k * 2, none⟩) (World.block_lt_of_cell? w _ h1)).trans h1
        have h2 := (hB.cell (p := ⟨b, off + k * 2 + 1, none⟩) (World.block_lt_of_cell? w _ h2)).trans h2
        generalize l[k].1 = f at *
        generalize l[k].2 = t at *
        clear hB
        go_wp2_with fail
        refine (CV.out _ _).mono ?_
        rintro e_ w2 ⟨rfl, rfl⟩
        have HB2 := Lib.hid (HB.out.alloc HB.out.size (.cells #[.int .i64 f, .int .i64 t] 66))
        clear h1 h2
        cases hf : vT f
        · have HE : Hid (R = 14) := Lib.hid (by rw [HR.out, ← HD.out, HK.out, hf]; rfl)
          clear hf
          go_wp2_with fail
          go_ret
          exact ⟨ret_i64 HE.out.symm, HB2.out⟩
        · have HF := Lib.hid hf
          clear hf
          go_wp2_with fail
          refine (CV.out _ _).mono ?_
          rintro e_ w3 ⟨rfl, rfl⟩
          cases ht : vT t
          · have HE : Hid (R = 14) := Lib.hid (by rw [HR.out, ← HD.out, HK.out, HF.out, ht]; rfl)
            clear ht
            go_wp2_with fail
            go_ret
            exact ⟨ret_i64 HE.out.symm, HB2.out⟩
          · by_cases hft : t < f
            · have d3 : decide (t < f) = true := decide_eq_true hft
              have HE : Hid (R = 8) := Lib.hid (by rw [HR.out, ← HD.out, HK.out, HF.out, ht, if_pos hft]; rfl)
              clear ht hft
              go_wp2_with fail
              go_ret
              exact ⟨ret_i64 HE.out.symm, HB2.out⟩
            · have d3 : decide (t < f) = false := decide_eq_false hft
              have HD2 : Hid (spL (l.drop (k + 1)) = spL l) := Lib.hid (by
                have h := HK.out
                rw [HF.out, ht, if_neg hft] at h
                rw [← HD.out, h]; rfl)
              clear ht hft
              go_wp2_with fail
              refine ⟨⟨k + 1, by omega, by go_num, HB2.out, HD2.out⟩, ?_⟩
              simp [intM]; omega
      · obtain rfl : n = k := by omega
        have HE : Hid (R = 0) := Lib.hid (by rw [HR.out, ← HD.out, List.drop_eq_nil_of_le (by have := HN.out; omega)]; rfl)
        go_wp2_with fail
        go_ret
        exact ⟨ret_i64 HE.out.symm, HB.out⟩
end Go.Proofs.YtihadbkjfocdoaaGreatDoor.BW
namespace Go.Proofs.YtihadbkjfocdoaaGreatDoor.BW
open Go.RowKit BM Go.Shelf MC
open BK hiding ret_bool ret_i64

end Go.Proofs.YtihadbkjfocdoaaGreatDoor.BW
namespace Go.Proofs.YtihadbkjfocdoaaGreatDoor.BW
open Go.RowKit BM Go.Shelf MC
open BK hiding ret_bool ret_i64

/-- Whether a time is in a span. -/
def inS (t : Int) (s : Int × Int) : Bool := decide (s.1 ≤ t) && decide (t ≤ s.2)
set_option maxHeartbeats 2000000 in
theorem in1_ok (f u t : Int) (bt : Nat) (w : World) (ht : Blk w bt 2 #[.int .i64 t]) : Calls Tryz.prog 86 #[.agg #[.int .i64 f, .int .i64 u], .pointer (some ⟨bt, 0, none⟩)] w fun r w' => r = .returned (.bool (inS t (f, u))) ∧ Below w.heap.size w w' := by
  have HB := Lib.hid (show Below w.heap.size w (w.alloc (.cells #[.int .i64 f, .int .i64 u] 66)) from (Below.refl _ w).alloc (Nat.le_refl _) _)
  have hc : (w.alloc (.cells #[.int .i64 f, .int .i64 u] 66)).cell? ⟨bt, 0, none⟩ = some (.int .i64 t) := (ht.alloc _).cell 0
  have hc0 : w.cell? ⟨bt, 0, none⟩ = some (.int .i64 t) := ht.cell 0
  have hlt := ht.lt
  have hne : ¬ bt = w.heap.size := by omega
  by_cases h0 : f ≤ t
  · have d0 : decide (f ≤ t) = true := decide_eq_true h0
    obtain ⟨d, hd⟩ : ∃ d, decide (t ≤ u) = d := ⟨_, rfl⟩
    have HV : Hid (inS t (f, u) = d) := Lib.hid (by unfold inS; simp only [d0, hd]; rfl)
    clear h0
    go_enter Tryz.func86, Tryz.ntmps86
    go_wp2_with fail
    go_ret
    exact ⟨ret_bool HV.out.symm, HB.out⟩
  · have d0 : decide (f ≤ t) = false := decide_eq_false h0
    have HV : Hid (inS t (f, u) = false) := Lib.hid (by unfold inS; simp only [d0]; rfl)
    clear h0
    go_enter Tryz.func86, Tryz.ntmps86
    go_wp2_with fail
    go_ret
    exact ⟨ret_bool HV.out.symm, HB.out⟩
set_option maxRecDepth 8000 in
set_option maxHeartbeats 4000000 in
theorem index_ok (l : List (Int × Int)) (a : Option Addr) (n c : Nat) (t : Int) (bt : Nat) (hn : l.length = n) (hn9 : n < 9223372036854775807) (w : World) (hl : SpansAt w a l) (ht : Blk w bt 2 #[.int .i64 t]) : Calls Tryz.prog 103 #[.slice a n c, .func (.func 86) #[] #[.pointer (some ⟨bt, 0, none⟩)]] w fun r w' => ∃ i : Int, r = .returned (.int .i64 i) ∧ decide (0 ≤ i) = l.any (inS t) ∧ Below w.heap.size w w' := by
  have HL := Lib.hid hl
  have HN := Lib.hid hn
  have HT := Lib.hid ht
  have C1 := Lib.hid (fun f u w h => in1_ok f u t bt w h)
  clear hl hn ht
  go_enter Tryz.func103, Tryz.ntmps103
  go_wp2_with fail
  go_loopw [8] (fun s8 wr => ∃ k : Nat, k ≤ n ∧ s8 = .int .i64 k ∧ Below w.heap.size w wr ∧ ∀ i (hi : i < l.length), i < k → inS t l[i] = false) (fun s8 _ => n - intM s8)
  case atStart => exact ⟨0, Nat.zero_le _, rfl, Below.refl _ _, fun i _ h => absurd h (Nat.not_lt_zero _)⟩
  case round =>
    obtain ⟨k, hk, rfl, hB, hno⟩ := hrel
    have HNO := Lib.hid hno
    have HB := Lib.hid hB
    clear hno
    rcases Nat.lt_or_ge k n with hlt | hge
    · have hkl : k < l.length := by have := HN.out; omega
      obtain ⟨b, off, rfl, h1, h2⟩ := HL.out k hkl
      have h1 := (hB.cell (p := ⟨b, off + k * 2, none⟩) (World.block_lt_of_cell? w _ h1)).trans h1
      have h2 := (hB.cell (p := ⟨b, off + k * 2 + 1, none⟩) (World.block_lt_of_cell? w _ h2)).trans h2
      have CC := Lib.hid (C1.out l[k].1 l[k].2 wr (HT.out.below hB HT.out.lt))
      have HK : Hid (∀ b, inS t (l[k].1, l[k].2) = b → (b = true → l.any (inS t) = true) ∧ (b = false → ∀ i (hi : i < l.length), i < k + 1 → inS t l[i] = false)) := Lib.hid (fun b hb => ⟨fun h => List.any_eq_true.2 ⟨l[k], List.getElem_mem hkl, by rw [← h]; exact hb⟩, fun h i hi h3 => by
        rcases Nat.lt_or_ge i k with h4 | h4
        · exact HNO.out i hi h4
        · obtain rfl : i = k := by omega
          rw [← h]; exact hb⟩)
      obtain ⟨d, hd⟩ : ∃ d, inS t (l[k].1, l[k].2) = d := ⟨_, rfl⟩
      rw [hd] at CC
      have HD := Lib.hid (HK.out d hd)
      clear hd HK hB
      generalize l[k].1 = f at *
      generalize l[k].2 = u at *
      cases d
      · have HD2 := Lib.hid (HD.out.2 rfl)
        clear HD
        go_wp2_with fail
        refine (CC.out).mono ?_
        rintro e_ w2 ⟨rfl, hb⟩
        have HB2 := Lib.hid (HB.out.trans (hb.mono HB.out.size))
        clear hb
        go_wp2_with fail
        refine ⟨⟨k + 1, by omega, by go_num, HB2.out, HD2.out⟩, ?_⟩
        simp [intM]; omega
      · have HD2 := Lib.hid (HD.out.1 rfl)
        clear HD
        go_wp2_with fail
        refine (CC.out).mono ?_
        rintro e_ w2 ⟨rfl, hb⟩
        have HB2 := Lib.hid (HB.out.trans (hb.mono HB.out.size))
        clear hb
        go_wp2_with fail
        go_ret
        exact ⟨(k : Int), rfl, by rw [HD2.out]; exact decide_eq_true (by omega), HB2.out⟩
    · obtain rfl : n = k := by omega
      have HE : Hid (l.any (inS t) = false) := Lib.hid (by
        rw [List.any_eq_false]
        intro s hs
        obtain ⟨i, hi, rfl⟩ := List.getElem_of_mem hs
        rw [HNO.out i hi (by have := HN.out; omega)]
        simp)
      go_wp2_with fail
      go_ret
      exact ⟨-1, rfl, by rw [HE.out]; rfl, HB.out⟩
set_option maxHeartbeats 2000000 in
theorem contains_ok (l : List (Int × Int)) (a : Option Addr) (n c : Nat) (t : Int) (bt : Nat) (hn : l.length = n) (hn9 : n < 9223372036854775807) (w : World) (hl : SpansAt w a l) (ht : Blk w bt 2 #[.int .i64 t]) : Calls Tryz.prog 85 #[.slice a n c, .func (.func 86) #[] #[.pointer (some ⟨bt, 0, none⟩)]] w fun r w' => r = .returned (.bool (l.any (inS t))) ∧ Below w.heap.size w w' := by
  have C := Lib.hid (index_ok l a n c t bt hn hn9 w hl ht)
  generalize l.any (inS t) = R at *
  clear hl ht
  go_enter Tryz.func85, Tryz.ntmps85
  go_wp2_with fail
  refine (C.out).mono ?_
  rintro e_ w2 ⟨i, rfl, hi, hb⟩
  go_wp2_with fail
  go_ret
  exact ⟨ret_bool (by first | rfl | exact hi), hb⟩
end Go.Proofs.YtihadbkjfocdoaaGreatDoor.BW
namespace Go.Proofs.YtihadbkjfocdoaaGreatDoor.BW
open Go.RowKit BM Go.Shelf MC
open BK hiding ret_bool ret_i64

def inE (l : List (Int × Int)) (t : Int) : Int := if spE l = 0 then (if vT t then 0 else 14) else spE l
def inV (l : List (Int × Int)) (t : Int) : Bool := decide (inE l t = 0) && l.any (inS t)
set_option maxRecDepth 8000 in
set_option maxHeartbeats 4000000 in
theorem bin_ok (l : List (Int × Int)) (a : Option Addr) (n c : Nat) (t : Int) (hn : l.length = n) (hn9 : n < 9223372036854775807) (w : World) (hl : SpansAt w a l) : Calls Tryz.prog 55 #[.slice a n c, .int .i64 t] w fun r w' => r = .returned (.tuple #[.bool (inV l t), .int .i64 (inE l t)]) ∧ Below w.heap.size w w' := by
  obtain ⟨W1, hW1⟩ : ∃ W1, W1 = w.alloc (.cells #[.int .i64 t] 2) := ⟨_, rfl⟩
  have hB1 : Below w.heap.size w W1 := by rw [hW1]; exact (Below.refl _ w).alloc (Nat.le_refl _) _
  have hbt : Blk W1 w.heap.size 2 #[.int .i64 t] := by rw [hW1]; exact Blk.new w _ _
  have hl1 := hl.below hB1
  have CK := Lib.hid (bcheck_ok l a n c hn (by omega) W1 hl1)
  have CV := Lib.hid (fun w => bvalid_ok t w)
  have CC := Lib.hid (fun w (h : SpansAt w a l) (h2 : Blk w _ _ _) => contains_ok l a n c t W1.heap.size hn hn9 w h h2)
  have CD := Lib.hid (fun W (h : SpansAt W a l) (h2 : Blk W w.heap.size 2 #[.int .i64 t]) => contains_ok l a n c t w.heap.size hn hn9 W h h2)
  have HI : Hid (inV l t = (decide (inE l t = 0) && l.any (inS t))) := Lib.hid rfl
  have HE : Hid (inE l t = if spE l = 0 then (if vT t then 0 else 14) else spE l) := Lib.hid rfl
  have HW := Lib.hid hW1
  have HL := Lib.hid hl1
  rw [hW1] at CK
  clear hl hl1 hn CC
  generalize l.any (inS t) = y at *
  generalize inV l t = R at *
  generalize inE l t = E at *
  go_enter Tryz.func55, Tryz.ntmps55
  go_wp2_with fail
  refine (CK.out).mono ?_
  rintro e_ w2 ⟨rfl, hb⟩
  have hb : Below W1.heap.size W1 w2 := by rw [HW.out]; exact hb
  have HB2 := Lib.hid (hB1.trans (hb.mono hB1.size))
  have hbt2 := hbt.below hb hbt.lt
  have HL2 := Lib.hid (HL.out.below hb)
  have HBT := Lib.hid hbt2
  clear hb hbt hB1 CK HL hW1 HW
  by_cases hs : spE l = 0
  · rw [if_pos hs] at HE
    have c0 : w2.cell? ⟨w.heap.size, 0, none⟩ = some (.int .i64 t) := hbt2.cell 0
    clear hbt2
    cases hv : vT t
    · have HE' : Hid (E = 14) := Lib.hid (by rw [HE.out, hv]; rfl)
      have HR : Hid (R = false) := Lib.hid (by rw [HI.out, HE'.out]; rfl)
      rw [hv] at CV
      clear hv
      go_wp2_with fail
      refine (CV.out _).mono ?_
      rintro e_ w3 ⟨rfl, rfl⟩
      go_wp2_with fail
      go_ret2
      exact ⟨ret_beX HR.out.symm HE'.out.symm, HB2.out⟩
    · have HE' : Hid (E = 0) := Lib.hid (by rw [HE.out, hv]; rfl)
      have HR : Hid (R = y) := Lib.hid (by rw [HI.out, HE'.out]; simp)
      rw [hv] at CV
      clear hv
      go_wp2_with fail
      refine (CV.out _).mono ?_
      rintro e_ w3 ⟨rfl, rfl⟩
      go_wp2_with fail
      refine (CD.out _ HL2.out HBT.out).mono ?_
      rintro e_ w4 ⟨rfl, hb⟩
      go_wp2_with fail
      go_ret2
      exact ⟨ret_beX HR.out.symm HE'.out.symm, HB2.out.trans (hb.mono HB2.out.size)⟩
  · rw [if_neg hs] at HE
    have hne : (spE l == 0) = false := by rw [beq_eq_false_iff_ne]; exact hs
    have hne' : (spE l != 0) = true := by rw [bne, hne]; rfl
    have HR : Hid (R = false) := Lib.hid (by rw [HI.out, HE.out, decide_eq_false hs]; rfl)
    generalize spE l = s at *
    clear hs hbt2
    go_wp2_with fail
    go_ret2
    exact ⟨ret_beX HR.out.symm HE.out.symm, HB2.out⟩
end Go.Proofs.YtihadbkjfocdoaaGreatDoor.BW
namespace Go.Proofs.YtihadbkjfocdoaaGreatDoor.BW
open Go.RowKit BM Go.Shelf MC
open BK hiding ret_bool ret_i64

/-- How many more spans of the first list there are up to a time. -/
def cm0 : List (Int × Int × Int) → Int → Int
  | [], _ => 0
  | x :: L, s => (if x.1 ≤ s then x.2.1 else 0) + cm0 L s
def cm1 : List (Int × Int × Int) → Int → Int
  | [], _ => 0
  | x :: L, s => (if x.1 ≤ s then x.2.2 else 0) + cm1 L s
def totB : List (Int × Int × Int) → Nat
  | [] => 0
  | x :: L => x.2.1.natAbs + x.2.2.natAbs + totB L
theorem cm0_append (A B : List (Int × Int × Int)) (s : Int) : cm0 (A ++ B) s = cm0 A s + cm0 B s := by
  induction A with
  | nil => simp [cm0]
  | cons x A ih => simp only [List.cons_append, cm0, ih]; omega
theorem cm1_append (A B : List (Int × Int × Int)) (s : Int) : cm1 (A ++ B) s = cm1 A s + cm1 B s := by
  induction A with
  | nil => simp [cm1]
  | cons x A ih => simp only [List.cons_append, cm1, ih]; omega
theorem totB_append (A B : List (Int × Int × Int)) : totB (A ++ B) = totB A + totB B := by
  induction A with
  | nil => simp [totB]
  | cons x A ih => simp only [List.cons_append, totB, ih]; omega
theorem cm0_perm {A B : List (Int × Int × Int)} (h : A.Perm B) (s : Int) : cm0 A s = cm0 B s := by
  induction h with
  | nil => rfl
  | cons x _ ih => simp only [cm0, ih]
  | swap x y l => simp only [cm0]; omega
  | trans _ _ h1 h2 => exact h1.trans h2
theorem cm1_perm {A B : List (Int × Int × Int)} (h : A.Perm B) (s : Int) : cm1 A s = cm1 B s := by
  induction h with
  | nil => rfl
  | cons x _ ih => simp only [cm1, ih]
  | swap x y l => simp only [cm1]; omega
  | trans _ _ h1 h2 => exact h1.trans h2
theorem totB_perm {A B : List (Int × Int × Int)} (h : A.Perm B) : totB A = totB B := by
  induction h with
  | nil => rfl
  | cons x _ ih => simp only [totB, ih]
  | swap x y l => simp only [totB]; omega
  | trans _ _ h1 h2 => exact h1.trans h2
/-- The borders of a span. -/
def bdA (s : Int × Int) : List (Int × Int × Int) := [(s.1, 1, 0), (s.2 + 1, -1, 0)]
def bdB (s : Int × Int) : List (Int × Int × Int) := [(s.1, 0, 1), (s.2 + 1, 0, -1)]
def bds (a b : List (Int × Int)) : List (Int × Int × Int) := a.flatMap bdA ++ b.flatMap bdB
def nS : List (Int × Int) → Int → Int
  | [], _ => 0
  | x :: l, s => (if inS s x then 1 else 0) + nS l s
theorem nS_nonneg (l : List (Int × Int)) (s : Int) : 0 ≤ nS l s := by
  induction l with
  | nil => simp [nS]
  | cons x l ih => simp only [nS]; split <;> omega
theorem nS_pos (l : List (Int × Int)) (s : Int) : 0 < nS l s ↔ l.any (inS s) = true := by
  induction l with
  | nil => simp [nS]
  | cons x l ih =>
    have := nS_nonneg l s
    simp only [nS, List.any_cons, Bool.or_eq_true, ← ih]
    by_cases h : inS s x = true
    · rw [if_pos h]; simp only [h, true_or, iff_true]; omega
    · rw [if_neg h]; simp only [h, false_or, Int.zero_add, Bool.false_eq_true]
theorem nS_dec (l : List (Int × Int)) (s : Int) : decide (0 < nS l s) = l.any (inS s) := by
  rw [Bool.eq_iff_iff, decide_eq_true_eq]
  exact nS_pos l s
theorem cm0_bdA {a : List (Int × Int)} (h : ∀ u ∈ a, u.1 ≤ u.2) (s : Int) : cm0 (a.flatMap bdA) s = nS a s := by
  induction a with
  | nil => rfl
  | cons u a ih =>
    have hu := h u (List.mem_cons_self ..)
    have ih := ih (fun v hv => h v (List.mem_cons_of_mem _ hv))
    rw [List.flatMap_cons, cm0_append, ih]
    simp only [bdA, cm0, nS, inS]
    by_cases h1 : u.1 ≤ s <;> by_cases h2 : s ≤ u.2 <;> simp [h1, h2] <;> split <;> omega
theorem cm0_bdB (a : List (Int × Int)) (s : Int) : cm0 (a.flatMap bdB) s = 0 := by
  induction a with
  | nil => rfl
  | cons u a ih =>
    rw [List.flatMap_cons, cm0_append, ih]
    simp [bdB, cm0]
theorem cm1_bdB {a : List (Int × Int)} (h : ∀ u ∈ a, u.1 ≤ u.2) (s : Int) : cm1 (a.flatMap bdB) s = nS a s := by
  induction a with
  | nil => rfl
  | cons u a ih =>
    have hu := h u (List.mem_cons_self ..)
    have ih := ih (fun v hv => h v (List.mem_cons_of_mem _ hv))
    rw [List.flatMap_cons, cm1_append, ih]
    simp only [bdB, cm1, nS, inS]
    by_cases h1 : u.1 ≤ s <;> by_cases h2 : s ≤ u.2 <;> simp [h1, h2] <;> split <;> omega
theorem cm1_bdA (a : List (Int × Int)) (s : Int) : cm1 (a.flatMap bdA) s = 0 := by
  induction a with
  | nil => rfl
  | cons u a ih =>
    rw [List.flatMap_cons, cm1_append, ih]
    simp [bdA, cm1]
theorem cm0_bds {a b : List (Int × Int)} (ha : ∀ u ∈ a, u.1 ≤ u.2) (s : Int) : cm0 (bds a b) s = nS a s := by
  unfold bds
  rw [cm0_append, cm0_bdA ha, cm0_bdB]
  omega
theorem cm1_bds {a b : List (Int × Int)} (hb : ∀ u ∈ b, u.1 ≤ u.2) (s : Int) : cm1 (bds a b) s = nS b s := by
  unfold bds
  rw [cm1_append, cm1_bdB hb, cm1_bdA]
  omega
theorem totB_bdA (a : List (Int × Int)) : totB (a.flatMap bdA) = 2 * a.length := by
  induction a with
  | nil => rfl
  | cons u a ih =>
    rw [List.flatMap_cons, totB_append, ih]
    simp [bdA, totB]
    omega
theorem totB_bdB (a : List (Int × Int)) : totB (a.flatMap bdB) = 2 * a.length := by
  induction a with
  | nil => rfl
  | cons u a ih =>
    rw [List.flatMap_cons, totB_append, ih]
    simp [bdB, totB]
    omega
theorem totB_bds (a b : List (Int × Int)) : totB (bds a b) = 2 * a.length + 2 * b.length := by
  unfold bds
  rw [totB_append, totB_bdA, totB_bdB]
theorem bds_mem {a b : List (Int × Int)} {x : Int × Int × Int} (h : x ∈ bds a b) : ∃ u, (u ∈ a ∨ u ∈ b) ∧ (x.1 = u.1 ∨ x.1 = u.2 + 1) := by
  unfold bds at h
  rcases List.mem_append.1 h with h | h
  · obtain ⟨u, hu, hx⟩ := List.mem_flatMap.1 h
    refine ⟨u, .inl hu, ?_⟩
    simp [bdA] at hx
    rcases hx with rfl | rfl
    · exact .inl rfl
    · exact .inr rfl
  · obtain ⟨u, hu, hx⟩ := List.mem_flatMap.1 h
    refine ⟨u, .inr hu, ?_⟩
    simp [bdB] at hx
    rcases hx with rfl | rfl
    · exact .inl rfl
    · exact .inr rfl
/-- Borders of one time, made one. -/
def mrg : List (Int × Int × Int) → List (Int × Int × Int)
  | [] => []
  | x :: L => match mrg L with
    | [] => [x]
    | y :: M => if y.1 = x.1 then (x.1, x.2.1 + y.2.1, x.2.2 + y.2.2) :: M else x :: y :: M
theorem mrg_cons (x : Int × Int × Int) (L : List (Int × Int × Int)) : mrg (x :: L) = (match mrg L with
    | [] => [x]
    | y :: M => if y.1 = x.1 then (x.1, x.2.1 + y.2.1, x.2.2 + y.2.2) :: M else x :: y :: M) := rfl
theorem mrg_head (x : Int × Int × Int) (L : List (Int × Int × Int)) : ∃ y M, mrg (x :: L) = y :: M ∧ y.1 = x.1 := by
  rw [mrg_cons]
  cases mrg L with
  | nil => exact ⟨_, _, rfl, rfl⟩
  | cons y M =>
    by_cases h : y.1 = x.1
    · simp only [if_pos h]; exact ⟨_, _, rfl, rfl⟩
    · simp only [if_neg h]; exact ⟨_, _, rfl, rfl⟩
theorem mrg_eq (o x : Int × Int × Int) (L : List (Int × Int × Int)) (h : x.1 = o.1) : mrg (o :: x :: L) = mrg ((o.1, o.2.1 + x.2.1, o.2.2 + x.2.2) :: L) := by
  rw [mrg_cons o, mrg_cons x, mrg_cons (o.1, _)]
  cases mrg L with
  | nil => simp [h]
  | cons y M =>
    by_cases hy : y.1 = x.1
    · have hy2 : y.1 = o.1 := hy.trans h
      simp [hy, h]
      constructor <;> omega
    · have hy2 : ¬ y.1 = o.1 := fun e => hy (e.trans h.symm)
      simp [hy2, h]
theorem mrg_ne (o x : Int × Int × Int) (L : List (Int × Int × Int)) (h : ¬ x.1 = o.1) : mrg (o :: x :: L) = o :: mrg (x :: L) := by
  obtain ⟨y, M, e, hy⟩ := mrg_head x L
  rw [mrg_cons o, e]
  have : ¬ y.1 = o.1 := fun e => h (hy.symm.trans e)
  simp [this]
theorem cm0_mrg (L : List (Int × Int × Int)) (s : Int) : cm0 (mrg L) s = cm0 L s := by
  induction L with
  | nil => rfl
  | cons x L ih =>
    rw [mrg_cons]
    revert ih
    cases mrg L with
    | nil => intro ih; simp only [cm0] at ih ⊢; rw [← ih]
    | cons y M =>
      intro ih
      by_cases h : y.1 = x.1
      · simp only [if_pos h, cm0] at ih ⊢
        rw [← ih, h]
        split <;> omega
      · simp only [if_neg h, cm0] at ih ⊢
        rw [← ih]
theorem cm1_mrg (L : List (Int × Int × Int)) (s : Int) : cm1 (mrg L) s = cm1 L s := by
  induction L with
  | nil => rfl
  | cons x L ih =>
    rw [mrg_cons]
    revert ih
    cases mrg L with
    | nil => intro ih; simp only [cm1] at ih ⊢; rw [← ih]
    | cons y M =>
      intro ih
      by_cases h : y.1 = x.1
      · simp only [if_pos h, cm1] at ih ⊢
        rw [← ih, h]
        split <;> omega
      · simp only [if_neg h, cm1] at ih ⊢
        rw [← ih]
theorem totB_mrg (L : List (Int × Int × Int)) : totB (mrg L) ≤ totB L := by
  induction L with
  | nil => exact Nat.le_refl _
  | cons x L ih =>
    rw [mrg_cons]
    revert ih
    cases mrg L with
    | nil => intro ih; simp only [totB] at ih ⊢; omega
    | cons y M =>
      intro ih
      by_cases h : y.1 = x.1
      · simp only [if_pos h, totB] at ih ⊢
        omega
      · simp only [if_neg h, totB] at ih ⊢
        omega
theorem mrg_mem {L : List (Int × Int × Int)} : ∀ y ∈ mrg L, ∃ x ∈ L, y.1 = x.1 := by
  induction L with
  | nil => intro y hy; cases hy
  | cons x L ih =>
    rw [mrg_cons]
    revert ih
    cases mrg L with
    | nil =>
      intro _ y hy
      rw [List.mem_singleton.1 hy]
      exact ⟨x, List.mem_cons_self .., rfl⟩
    | cons y M =>
      intro ih
      have ih2 : ∀ v ∈ y :: M, ∃ u ∈ x :: L, v.1 = u.1 := fun v hv => by
        obtain ⟨u, hu, e⟩ := ih v hv
        exact ⟨u, List.mem_cons_of_mem _ hu, e⟩
      by_cases h : y.1 = x.1
      · simp only [if_pos h]
        intro v hv
        rcases List.mem_cons.1 hv with rfl | hv
        · exact ⟨x, List.mem_cons_self .., rfl⟩
        · exact ih2 v (List.mem_cons_of_mem _ hv)
      · simp only [if_neg h]
        intro v hv
        rcases List.mem_cons.1 hv with rfl | hv
        · exact ⟨v, List.mem_cons_self .., rfl⟩
        · exact ih2 v hv
theorem mrg_inc {L : List (Int × Int × Int)} (h : L.Pairwise (fun a b => a.1 ≤ b.1)) : (mrg L).Pairwise (fun a b => a.1 < b.1) := by
  induction L with
  | nil => exact List.Pairwise.nil
  | cons x L ih =>
    rw [List.pairwise_cons] at h
    have ih := ih h.2
    have hm := @mrg_mem L
    rw [mrg_cons]
    revert ih hm
    cases mrg L with
    | nil => intro _ _; exact List.pairwise_singleton _ _
    | cons y M =>
      intro ih hm
      rw [List.pairwise_cons] at ih
      obtain ⟨u, hu, e⟩ := hm y (List.mem_cons_self ..)
      have := h.1 u hu
      by_cases hy : y.1 = x.1
      · simp only [if_pos hy]
        exact List.pairwise_cons.2 ⟨fun v hv => by have := ih.1 v hv; simp; omega, ih.2⟩
      · simp only [if_neg hy]
        refine List.pairwise_cons.2 ⟨fun v hv => ?_, List.pairwise_cons.2 ih⟩
        rcases List.mem_cons.1 hv with rfl | hv
        · omega
        · have := ih.1 v hv; omega
/-- What join does with the borders. -/
def sweep (wt : Bool → Bool → Bool) : List (Int × Int × Int) → Int → Int → Option Int → List (Int × Int)
  | [], _, _, none => []
  | [], _, _, some f => [(f, 0)]
  | x :: L, m, n, none => if wt (decide (0 < m + x.2.1)) (decide (0 < n + x.2.2)) then sweep wt L (m + x.2.1) (n + x.2.2) (some x.1) else sweep wt L (m + x.2.1) (n + x.2.2) none
  | x :: L, m, n, some f => if wt (decide (0 < m + x.2.1)) (decide (0 < n + x.2.2)) then sweep wt L (m + x.2.1) (n + x.2.2) (some f) else (f, x.1 - 1) :: sweep wt L (m + x.2.1) (n + x.2.2) none
/-- The fewest spans of the times that are wanted. -/
structure NormS (P : Int → Bool) (z lo : Int) (out : List (Int × Int)) : Prop where
  sp : ∀ u ∈ out, lo ≤ u.1 ∧ u.1 ≤ u.2 ∧ z ≤ u.2 ∧ P (u.2 + 1) = false ∧ ∀ s, z ≤ s → u.1 ≤ s → s ≤ u.2 → P s = true
  all : ∀ s, z ≤ s → P s = true → ∃ u ∈ out, u.1 ≤ s ∧ s ≤ u.2
  sep : out.Pairwise (fun a b => a.2 + 1 < b.1)
def wtP (wt : Bool → Bool → Bool) (L : List (Int × Int × Int)) (m n s : Int) : Bool := wt (decide (0 < m + cm0 L s)) (decide (0 < n + cm1 L s))
theorem cm0_far {L : List (Int × Int × Int)} {s : Int} (h : ∀ x ∈ L, s < x.1) : cm0 L s = 0 := by
  induction L with
  | nil => rfl
  | cons x L ih =>
    have := h x (List.mem_cons_self ..)
    simp only [cm0, ih (fun y hy => h y (List.mem_cons_of_mem _ hy))]
    rw [if_neg (by omega)]; rfl
theorem cm1_far {L : List (Int × Int × Int)} {s : Int} (h : ∀ x ∈ L, s < x.1) : cm1 L s = 0 := by
  induction L with
  | nil => rfl
  | cons x L ih =>
    have := h x (List.mem_cons_self ..)
    simp only [cm1, ih (fun y hy => h y (List.mem_cons_of_mem _ hy))]
    rw [if_neg (by omega)]; rfl
theorem wtP_far {wt : Bool → Bool → Bool} {L : List (Int × Int × Int)} {m n s : Int} (h : ∀ x ∈ L, s < x.1) : wtP wt L m n s = wt (decide (0 < m)) (decide (0 < n)) := by
  unfold wtP
  rw [cm0_far h, cm1_far h, Int.add_zero, Int.add_zero]
theorem wtP_cons {wt : Bool → Bool → Bool} {x : Int × Int × Int} {L : List (Int × Int × Int)} {m n s : Int} (h : x.1 ≤ s) : wtP wt (x :: L) m n s = wtP wt L (m + x.2.1) (n + x.2.2) s := by
  unfold wtP
  simp only [cm0, cm1, if_pos h, Int.add_assoc]
theorem sweep_norm (wt : Bool → Bool → Bool) : ∀ (L : List (Int × Int × Int)) (m n : Int) (op : Option Int) (z lo : Int), L.Pairwise (fun a b => a.1 < b.1) → (∀ x ∈ L, z < x.1) → wt (decide (0 < m)) (decide (0 < n)) = op.isSome → (∀ f, op = some f → f ≤ z) → lo = op.getD (z + 1) →
    (∃ S, ∀ s, S ≤ s → wtP wt L m n s = false) → NormS (wtP wt L m n) z lo (sweep wt L m n op) ∧ (∀ f, op = some f → ∃ t R, sweep wt L m n op = (f, t) :: R ∧ z ≤ t) := by
  intro L
  induction L with
  | nil =>
    intro m n op z lo _ _ hop _ _ ⟨S, hS⟩
    have hP : ∀ s, wtP wt [] m n s = op.isSome := fun s => by rw [wtP_far (fun _ h => by cases h), hop]
    cases op with
    | none => exact ⟨⟨fun u hu => (by unfold sweep at hu; cases hu), fun s _ h => (by rw [hP s] at h; cases h), (by unfold sweep; exact List.Pairwise.nil)⟩, fun f h => (by cases h)⟩
    | some f =>
      have := hS S (Int.le_refl _)
      rw [hP] at this
      cases this
  | cons x L ih =>
    intro m n op z lo hinc hz hop hf hlo ⟨S, hS⟩
    rw [List.pairwise_cons] at hinc
    have hzx := hz x (List.mem_cons_self ..)
    have hlow : ∀ s, s < x.1 → wtP wt (x :: L) m n s = op.isSome := fun s hs => by
      rw [wtP_far (fun y hy => ?_), hop]
      rcases List.mem_cons.1 hy with rfl | hy
      · exact hs
      · have := hinc.1 y hy; omega
    have hup : ∀ s, x.1 ≤ s → wtP wt (x :: L) m n s = wtP wt L (m + x.2.1) (n + x.2.2) s := fun s hs => wtP_cons hs
    have hS2 : ∃ S, ∀ s, S ≤ s → wtP wt L (m + x.2.1) (n + x.2.2) s = false := ⟨max S x.1, fun s hs => by rw [← hup s (by omega)]; exact hS s (by omega)⟩
    have hat : wtP wt L (m + x.2.1) (n + x.2.2) x.1 = wt (decide (0 < m + x.2.1)) (decide (0 < n + x.2.2)) := wtP_far hinc.1
    cases hw : wt (decide (0 < m + x.2.1)) (decide (0 < n + x.2.2)) with
    | true =>
      cases op with
      | none =>
        have hlo : lo = z + 1 := hlo
        have e : sweep wt (x :: L) m n none = sweep wt L (m + x.2.1) (n + x.2.2) (some x.1) := by rw [sweep, hw]; rfl
        obtain ⟨⟨h1, h2, h3⟩, h4⟩ := ih (m + x.2.1) (n + x.2.2) (some x.1) x.1 x.1 hinc.2 hinc.1 hw (fun f h => by injection h with h; omega) rfl hS2
        rw [e]
        refine ⟨⟨fun u hu => ?_, fun s hs hp => ?_, h3⟩, fun f h => by cases h⟩
        · obtain ⟨g1, g2, g3, g4, g5⟩ := h1 u hu
          exact ⟨by omega, g2, by omega, by rw [hup _ (by omega)]; exact g4, fun s hs h5 h6 => by rw [hup _ (by omega)]; exact g5 s (by omega) h5 h6⟩
        · rcases Int.lt_or_le s x.1 with hlt | hge
          · rw [hlow s hlt] at hp; cases hp
          · rw [hup s hge] at hp
            exact h2 s hge hp
      | some f =>
        have hlo : lo = f := hlo
        have hfz := hf f rfl
        have e : sweep wt (x :: L) m n (some f) = sweep wt L (m + x.2.1) (n + x.2.2) (some f) := by rw [sweep, hw]; rfl
        obtain ⟨⟨h1, h2, h3⟩, h4⟩ := ih (m + x.2.1) (n + x.2.2) (some f) x.1 f hinc.2 hinc.1 hw (fun g h => by injection h with h; omega) rfl hS2
        obtain ⟨t, R, e2, ht⟩ := h4 f rfl
        rw [e]
        refine ⟨⟨fun u hu => ?_, fun s hs hp => ?_, h3⟩, fun g h => ⟨t, R, by injection h with h; rw [← h]; exact e2, by omega⟩⟩
        · obtain ⟨g1, g2, g3, g4, g5⟩ := h1 u hu
          refine ⟨by omega, g2, by omega, by rw [hup _ (by omega)]; exact g4, fun s hs h5 h6 => ?_⟩
          rcases Int.lt_or_le s x.1 with hlt | hge
          · rw [hlow s hlt]; rfl
          · rw [hup _ hge]; exact g5 s hge h5 h6
        · rcases Int.lt_or_le s x.1 with hlt | hge
          · exact ⟨(f, t), by rw [e2]; exact List.mem_cons_self .., by simp; omega, by simp; omega⟩
          · rw [hup s hge] at hp
            exact h2 s hge hp
    | false =>
      obtain ⟨⟨h1, h2, h3⟩, h4⟩ := ih (m + x.2.1) (n + x.2.2) none x.1 (x.1 + 1) hinc.2 hinc.1 hw (fun g h => by cases h) rfl hS2
      cases op with
      | none =>
        have hlo : lo = z + 1 := hlo
        have e : sweep wt (x :: L) m n none = sweep wt L (m + x.2.1) (n + x.2.2) none := by rw [sweep, hw]; rfl
        rw [e]
        refine ⟨⟨fun u hu => ?_, fun s hs hp => ?_, h3⟩, fun f h => by cases h⟩
        · obtain ⟨g1, g2, g3, g4, g5⟩ := h1 u hu
          exact ⟨by omega, g2, by omega, by rw [hup _ (by omega)]; exact g4, fun s hs h5 h6 => by rw [hup _ (by omega)]; exact g5 s (by omega) h5 h6⟩
        · rcases Int.lt_or_le s x.1 with hlt | hge
          · rw [hlow s hlt] at hp; cases hp
          · rw [hup s hge] at hp
            exact h2 s hge hp
      | some f =>
        have hlo : lo = f := hlo
        have hfz := hf f rfl
        have e : sweep wt (x :: L) m n (some f) = (f, x.1 - 1) :: sweep wt L (m + x.2.1) (n + x.2.2) none := by rw [sweep, hw]; rfl
        rw [e]
        refine ⟨⟨fun u hu => ?_, fun s hs hp => ?_, List.pairwise_cons.2 ⟨fun u hu => ?_, h3⟩⟩, fun g h => ⟨x.1 - 1, sweep wt L (m + x.2.1) (n + x.2.2) none, by injection h with h; rw [h], by omega⟩⟩
        · rcases List.mem_cons.1 hu with rfl | hu
          · refine ⟨by simp; omega, by simp; omega, by simp; omega, ?_, fun s hs h5 h6 => ?_⟩
            · rw [show x.1 - 1 + 1 = x.1 by omega, hup _ (Int.le_refl _), hat, hw]
            · have h6 : s ≤ x.1 - 1 := h6
              rw [hlow s (by omega)]; rfl
          · obtain ⟨g1, g2, g3, g4, g5⟩ := h1 u hu
            exact ⟨by omega, g2, by omega, by rw [hup _ (by omega)]; exact g4, fun s hs h5 h6 => by rw [hup _ (by omega)]; exact g5 s (by omega) h5 h6⟩
        · rcases Int.lt_or_le s x.1 with hlt | hge
          · exact ⟨(f, x.1 - 1), List.mem_cons_self .., by simp; omega, by simp; omega⟩
          · rw [hup s hge] at hp
            obtain ⟨u, hu, h⟩ := h2 s hge hp
            exact ⟨u, List.mem_cons_of_mem _ hu, h⟩
        · have := (h1 u hu).1
          show x.1 - 1 + 1 < u.1
          omega
/-- What join returns of valid spans. -/
theorem join_norm {wt : Bool → Bool → Bool} (hw : wt false false = false) {a b : List (Int × Int)} (ha : ∀ u ∈ a, 0 ≤ u.1 ∧ u.1 ≤ u.2 ∧ u.2 ≤ 253402300799) (hb : ∀ u ∈ b, 0 ≤ u.1 ∧ u.1 ≤ u.2 ∧ u.2 ≤ 253402300799) {L : List (Int × Int × Int)} (hp : L.Perm (bds a b)) (hs : L.Pairwise (fun x y => x.1 ≤ y.1)) :
    NormS (fun s => wt (a.any (inS s)) (b.any (inS s))) (-1) 0 (sweep wt (mrg L) 0 0 none) := by
  have hP : wtP wt (mrg L) 0 0 = fun s => wt (a.any (inS s)) (b.any (inS s)) := by
    funext s
    unfold wtP
    rw [cm0_mrg, cm1_mrg, cm0_perm hp, cm1_perm hp, cm0_bds (fun u hu => (ha u hu).2.1), cm1_bds (fun u hu => (hb u hu).2.1), Int.zero_add, Int.zero_add, nS_dec, nS_dec]
  have hno : ∀ l : List (Int × Int), (∀ u ∈ l, 0 ≤ u.1 ∧ u.1 ≤ u.2 ∧ u.2 ≤ 253402300799) → ∀ s, 253402300800 ≤ s → l.any (inS s) = false := fun l hl s hs => by
    rw [List.any_eq_false]
    intro u hu
    have := hl u hu
    simp [inS]
    omega
  rw [← hP]
  refine (sweep_norm wt (mrg L) 0 0 none (-1) 0 (mrg_inc hs) (fun x hx => ?_) hw (fun f h => by cases h) rfl ⟨253402300800, fun s hs => ?_⟩).1
  · obtain ⟨y, hy, e⟩ := mrg_mem x hx
    obtain ⟨u, hu, h⟩ := bds_mem ((hp.mem_iff).1 hy)
    have : 0 ≤ u.1 ∧ u.1 ≤ u.2 := by rcases hu with hu | hu
                                     · have := ha u hu; omega
                                     · have := hb u hu; omega
    omega
  · rw [hP]
    simp only [hno a ha s hs, hno b hb s hs, hw]
end Go.Proofs.YtihadbkjfocdoaaGreatDoor.BW
namespace Go.Proofs.YtihadbkjfocdoaaGreatDoor.BW
open Go.RowKit BM Go.Shelf MC
open BK hiding ret_bool ret_i64

/-- The times among n of them, from one on. -/
def tms (q : Int → Bool) : Int → Nat → List Int
  | _, 0 => []
  | a, n + 1 => if q a then a :: tms q (a + 1) n else tms q (a + 1) n
def tmsP (q : Int → Bool) (a b : Int) : List Int := tms q a (b + 1 - a).toNat
def ctP (q : Int → Bool) (a b : Int) : Int := ((tmsP q a b).length : Int)
theorem tms_mem {q : Int → Bool} {t : Int} : ∀ {n : Nat} {a : Int}, t ∈ tms q a n ↔ a ≤ t ∧ t < a + n ∧ q t = true := by
  intro n
  induction n with
  | zero => intro a; simp [tms]; intro h1 h2; omega
  | succ n ih =>
    intro a
    by_cases h : q a = true
    · rw [tms, if_pos h, List.mem_cons, ih]
      constructor
      · rintro (rfl | ⟨h1, h2, h3⟩)
        · exact ⟨by omega, by omega, h⟩
        · exact ⟨by omega, by omega, h3⟩
      · rintro ⟨h1, h2, h3⟩
        by_cases e : t = a
        · exact .inl e
        · exact .inr ⟨by omega, by omega, h3⟩
    · rw [tms, if_neg h, ih]
      constructor
      · rintro ⟨h1, h2, h3⟩
        exact ⟨by omega, by omega, h3⟩
      · rintro ⟨h1, h2, h3⟩
        have e : t ≠ a := fun e => h (e ▸ h3)
        exact ⟨by omega, by omega, h3⟩
theorem tmsP_mem {q : Int → Bool} {t a b : Int} : t ∈ tmsP q a b ↔ a ≤ t ∧ t ≤ b ∧ q t = true := by
  unfold tmsP
  rw [tms_mem]
  constructor
  · rintro ⟨h1, h2, h3⟩; exact ⟨h1, by omega, h3⟩
  · rintro ⟨h1, h2, h3⟩; exact ⟨h1, by omega, h3⟩
theorem tms_inc {q : Int → Bool} : ∀ {n : Nat} {a : Int}, (tms q a n).Pairwise (· < ·) := by
  intro n
  induction n with
  | zero => intro a; exact List.Pairwise.nil
  | succ n ih =>
    intro a
    by_cases h : q a = true
    · rw [tms, if_pos h]
      exact List.pairwise_cons.2 ⟨fun t ht => by have := (tms_mem.1 ht).1; omega, ih⟩
    · rw [tms, if_neg h]; exact ih
theorem tmsP_inc {q : Int → Bool} {a b : Int} : (tmsP q a b).Pairwise (· < ·) := tms_inc
theorem inc_ext : ∀ {L M : List Int}, L.Pairwise (· < ·) → M.Pairwise (· < ·) → (∀ t, t ∈ L ↔ t ∈ M) → L = M := by
  intro L
  induction L with
  | nil =>
    intro M _ _ h
    cases M with
    | nil => rfl
    | cons y M => exact absurd ((h y).2 (List.mem_cons_self ..)) (by simp)
  | cons x L ih =>
    intro M hL hM h
    cases M with
    | nil => exact absurd ((h x).1 (List.mem_cons_self ..)) (by simp)
    | cons y M =>
      rw [List.pairwise_cons] at hL hM
      have e : x = y := by
        rcases List.mem_cons.1 ((h x).1 (List.mem_cons_self ..)) with e | h1
        · exact e
        · rcases List.mem_cons.1 ((h y).2 (List.mem_cons_self ..)) with e | h2
          · exact e.symm
          · have := hM.1 x h1; have := hL.1 y h2; omega
      subst e
      congr 1
      refine ih hL.2 hM.2 (fun t => ⟨fun ht => ?_, fun ht => ?_⟩)
      · rcases List.mem_cons.1 ((h t).1 (List.mem_cons_of_mem _ ht)) with e | h1
        · have := hL.1 t ht; omega
        · exact h1
      · rcases List.mem_cons.1 ((h t).2 (List.mem_cons_of_mem _ ht)) with e | h1
        · have := hM.1 t ht; omega
        · exact h1
theorem tmsP_skip {q : Int → Bool} {a b c : Int} (h : ∀ t, a ≤ t → t < c → t ≤ b → q t = false) (hac : a ≤ c) : tmsP q a b = tmsP q c b := by
  refine inc_ext tmsP_inc tmsP_inc (fun t => ?_)
  rw [tmsP_mem, tmsP_mem]
  constructor
  · rintro ⟨h1, h2, h3⟩
    refine ⟨?_, h2, h3⟩
    rcases Int.lt_or_le t c with h4 | h4
    · rw [h t h1 h4 h2] at h3; cases h3
    · exact h4
  · rintro ⟨h1, h2, h3⟩
    exact ⟨by omega, h2, h3⟩
theorem tmsP_nil {q : Int → Bool} {a b : Int} (h : ∀ t, a ≤ t → t ≤ b → q t = false) : tmsP q a b = [] := by
  rw [List.eq_nil_iff_forall_not_mem]
  intro t ht
  obtain ⟨h1, h2, h3⟩ := tmsP_mem.1 ht
  rw [h t h1 h2] at h3; cases h3
theorem tmsP_cons {q : Int → Bool} {a b : Int} (h : q a = true) (hab : a ≤ b) : tmsP q a b = a :: tmsP q (a + 1) b := by
  unfold tmsP
  rw [show (b + 1 - a).toNat = (b + 1 - (a + 1)).toNat + 1 by omega, tms, if_pos h]
theorem ctP_nil {q : Int → Bool} {a b : Int} (h : ∀ t, a ≤ t → t ≤ b → q t = false) : ctP q a b = 0 := by
  unfold ctP
  rw [tmsP_nil h]; rfl
end Go.Proofs.YtihadbkjfocdoaaGreatDoor.BW
