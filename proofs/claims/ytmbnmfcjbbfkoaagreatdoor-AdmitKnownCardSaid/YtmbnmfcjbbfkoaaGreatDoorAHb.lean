/- The walk of wakemanlaw35.AdmitKnown. -/
import Derived.Test.YtmbnmfcjbbfkoaaGreatDoorAHa
namespace Go.Proofs.YtmbnmfcjbbfkoaaGreatDoor.AD
open Go Go.RowKit BW
open BK (Bx BoxAt Blk only_refl only_drew only_drewN only_setCell only_trans only_of_below only_alloc below_drewN)
/-- A gate, and a variable that holds it. -/
structure KHas (B : Nat) (w0 w : World) (b : Nat) (L : Ly) (x : Gt) : Prop where
  g : GHas B w0 w L x
  v : Blk w b 50 #[.pointer (some ⟨L.g, 0, none⟩)]
section
variable {B b : Nat} {w0 w : World} {L : Ly} {x y : Gt}
theorem KHas.c (H : KHas B w0 w b L x) : w.cell? ⟨b, 0, none⟩ = some (.pointer (some ⟨L.g, 0, none⟩)) := H.v.cell 0
theorem KHas.next (H : KHas B w0 w b L x) {w' : World} (h : GHas B w0 w' L y) (hk : Keeps w w') : KHas B w0 w' b L y := ⟨h, hk _ _ _ H.v (by decide) (by decide) (by decide) (by decide)⟩
theorem KHas.below (H : KHas B w0 w b L x) {w' : World} (hb : Below w.heap.size w w') : KHas B w0 w' b L x := H.next (H.g.below hb) (keeps_below hb)
def whyN (n er : Int) : Int := if er = 0 then n else -er
theorem kh_why (H : KHas B w0 w b L x) (job now : Int) {n er : Int} (he : x.Why job now = (n, er)) (h9 : 0 ≤ er ∧ er ≤ 100) : Calls Tryz.prog 33 #[.int .i64 job, .int .i64 now, .pointer (some ⟨b, 0, none⟩)] w fun e w' => e = .returned (.int .i64 (whyN n er)) ∧ KHas B w0 w' b L x := by
  have W := Lib.hid (gh_why H.g job now he)
  have HH := Lib.hid H
  have c := H.c
  have HW : Hid (whyN n er = if er = 0 then n else -er) := Lib.hid rfl
  generalize whyN n er = R at *
  clear H he
  by_cases h0 : er = 0
  · subst h0
    have HR : Hid (R = n) := Lib.hid (by rw [HW.out, if_pos rfl])
    go_enter Tryz.func33, Tryz.ntmps33
    go_wp2_with fail
    refine (W.out).mono ?_
    rintro e_ w' ⟨rfl, h1, h2⟩
    have H1 := Lib.hid (HH.out.next h1 h2)
    clear h1 h2
    go_wp2_with fail
    go_ret
    exact ⟨retI HR.out.symm, H1.out⟩
  · have HR : Hid (R = -er) := Lib.hid (by rw [HW.out, if_neg h0])
    have q1 : (er == 0) = false := by rw [beq_eq_false_iff_ne]; exact h0
    have q2 : (er != 0) = true := by rw [bne, q1]; rfl
    go_enter Tryz.func33, Tryz.ntmps33
    go_wp2_with fail
    refine (W.out).mono ?_
    rintro e_ w' ⟨rfl, h1, h2⟩
    have H1 := Lib.hid (HH.out.next h1 h2)
    clear h1 h2
    go_wp2_with fail
    go_ret
    exact ⟨retI HR.out.symm, H1.out⟩
theorem kh_give (H : KHas B w0 w b L x) (job : Int) (ok : Bool) (now : Int) {n er : Int} (he : x.give job ok now = (n, er, y)) (h9 : 0 ≤ er ∧ er ≤ 100) : Calls Tryz.prog 34 #[.int .i64 job, .bool ok, .int .i64 now, .pointer (some ⟨b, 0, none⟩)] w fun e w' => e = .returned (.int .i64 (whyN n er)) ∧ KHas B w0 w' b L y := by
  have W := Lib.hid (gh_give H.g job ok now he)
  have HH := Lib.hid H
  have c := H.c
  have HW : Hid (whyN n er = if er = 0 then n else -er) := Lib.hid rfl
  generalize whyN n er = R at *
  clear H he
  by_cases h0 : er = 0
  · subst h0
    have HR : Hid (R = n) := Lib.hid (by rw [HW.out, if_pos rfl])
    go_enter Tryz.func34, Tryz.ntmps34
    go_wp2_with fail
    refine (W.out).mono ?_
    rintro e_ w' ⟨rfl, h1, h2⟩
    have H1 := Lib.hid (HH.out.next h1 h2)
    clear h1 h2
    go_wp2_with fail
    go_ret
    exact ⟨retI HR.out.symm, H1.out⟩
  · have HR : Hid (R = -er) := Lib.hid (by rw [HW.out, if_neg h0])
    have q1 : (er == 0) = false := by rw [beq_eq_false_iff_ne]; exact h0
    have q2 : (er != 0) = true := by rw [bne, q1]; rfl
    go_enter Tryz.func34, Tryz.ntmps34
    go_wp2_with fail
    refine (W.out).mono ?_
    rintro e_ w' ⟨rfl, h1, h2⟩
    have H1 := Lib.hid (HH.out.next h1 h2)
    clear h1 h2
    go_wp2_with fail
    go_ret
    exact ⟨retI HR.out.symm, H1.out⟩
end
theorem example_lit (w : World) : Calls Tryz.prog 32 #[] w fun e w' => ∃ q, e = .returned (.agg #[.int .i64 2, .int .i64 5, .int .i64 5, .int .i64 60, .int .u64 0, .int .i64 5, .int .i64 5, .slice (some ⟨q, 0, none⟩) 2 2]) ∧ Blk w' q 49 eCells ∧ w.heap.size ≤ q ∧ Below w.heap.size w w' :=
  (example_ok w).mono fun _ _ ⟨q, h1, h2, h3⟩ => ⟨q, h1, h2.1, h2.2, h3⟩
theorem nameSet (w : World) (b : Nat) (h : Blk w b 49 eCells) : Blk (w.setCell ⟨b, 30, none⟩ (.string ⟨#[97]⟩)) b 49 (eCells.setIfInBounds 30 (.string ⟨#[97]⟩)) := h.set_ 30 _
def eB2 : Jb := ⟨⟨#[97]⟩, plE0, polE 2 0 0 0⟩
def eL2 : JL := [(eA, []), (eB2, [])]
theorem e_jobs2 {w : World} {g : Nat} (h : Blk w g 49 (eCells.setIfInBounds 30 (.string ⟨#[97]⟩))) : JobsAt w (some ⟨g, 0, none⟩) eL2 :=
  jobs_all h rfl (fun x hx => by
    unfold eL2 at hx
    simp only [List.mem_cons, List.not_mem_nil, or_false] at hx
    rcases hx with rfl | rfl <;> exact pin0 u64_zero rfl)
theorem e_arg2 {w : World} {g : Nat} (h : Blk w g 49 (eCells.setIfInBounds 30 (.string ⟨#[97]⟩))) (h1 : SpTab w) (h2 : Tab w) : CArg w (eC g) eL2 :=
  ⟨⟨rfl, e_jobs2 h, (show (0 : Nat) < 18446744073709551616 by decide)⟩, (show (2 : Nat) ≤ 200 by decide), fun k hk => by
    have : k = 0 ∨ k = 1 := by simp [eL2] at hk; omega
    rcases this with rfl | rfl <;> exact Nat.zero_le _, h1, h2⟩
theorem e_have : cfE eG eL2 = 6 := by
  refine cfE_have (i := 1) (by decide +kernel) (by decide) (fun k hk => ?_) (by decide) (fun h => ?_)
  · have : k = 0 ∨ k = 1 := by simp [eL2] at hk; omega
    rcases this with rfl | rfl
    · exact (show nameB eA.nm = true by decide +kernel)
    · exact (show nameB eB2.nm = true by decide +kernel)
  · exact h 0 (by decide) (by decide) (by decide) rfl
def u0 : Gt := g0 eG eL
def u1 : Gt := (u0.take 0 100).2
set_option maxRecDepth 100000 in
theorem uq0 : u0.take 0 100 = (0, u1) := Prod.ext (by decide +kernel) rfl
set_option maxRecDepth 100000 in
theorem uq1 : u1.Why 0 100 = (4, 0) := by decide +kernel
set_option maxRecDepth 100000 in
theorem uq2 : u1.Why 1 100 = (0, 0) := by decide +kernel
def u2 : Gt := (u1.take 1 100).2
set_option maxRecDepth 100000 in
theorem uq3 : u1.take 1 100 = (0, u2) := Prod.ext (by decide +kernel) rfl
set_option maxRecDepth 100000 in
theorem uq4 : u2.Why 0 100 = (7, 0) := by decide +kernel
set_option maxRecDepth 100000 in
theorem uq5 : u2.Why 1 100 = (3, 0) := by decide +kernel
set_option maxRecDepth 100000 in
theorem uq6 : u2.next 1 100 = (0, false, 0) := by decide +kernel
def u3 : Gt := (u2.give 0 false 101).2.2
set_option maxRecDepth 100000 in
theorem uq7 : u2.give 0 false 101 = (7, 0, u3) := Prod.ext (by decide +kernel) (Prod.ext (by decide +kernel) rfl)
set_option maxRecDepth 100000 in
theorem uq8 : u3.Why 0 101 = (18, 0) := by decide +kernel
set_option maxRecDepth 100000 in
theorem uq9 : u3.state 0 101 = (0, 1, 0) := by decide +kernel
def u4 : Gt := (u3.take 0 104).2
set_option maxRecDepth 100000 in
theorem uq10 : u3.take 0 104 = (9, u4) := Prod.ext (by decide +kernel) rfl
def u5 : Gt := (u4.take 1 99).2
set_option maxRecDepth 100000 in
theorem uq11 : u4.take 1 99 = (8, u5) := Prod.ext (by decide +kernel) rfl
def u6 : Gt := (u5.take 7 99).2
set_option maxRecDepth 100000 in
theorem uq12 : u5.take 7 99 = (3, u6) := Prod.ext (by decide +kernel) rfl
def u7 : Gt := (u6.take 7 (-1)).2
set_option maxRecDepth 100000 in
theorem uq13 : u6.take 7 (-1) = (14, u7) := Prod.ext (by decide +kernel) rfl
set_option maxRecDepth 100000 in
theorem uq14 : u7.Why 0 100 = (0, 8) := by decide +kernel
def u8 : Gt := (u7.reset 0 102).2
set_option maxRecDepth 100000 in
theorem uq15 : u7.reset 0 102 = (0, u8) := Prod.ext (by decide +kernel) rfl
def u9 : Gt := (u8.take 0 105).2
set_option maxRecDepth 100000 in
theorem uq16 : u8.take 0 105 = (0, u9) := Prod.ext (by decide +kernel) rfl
def u10 : Gt := (u9.trip 1 106).2
set_option maxRecDepth 100000 in
theorem uq17 : u9.trip 1 106 = (9, u10) := Prod.ext (by decide +kernel) rfl
def u11 : Gt := (u10.reset 1 106).2
set_option maxRecDepth 100000 in
theorem uq18 : u10.reset 1 106 = (9, u11) := Prod.ext (by decide +kernel) rfl
def u12 : Gt := (u11.give 0 true 104).2.2
set_option maxRecDepth 100000 in
theorem uq19 : u11.give 0 true 104 = (0, 8, u12) := Prod.ext (by decide +kernel) (Prod.ext (by decide +kernel) rfl)
def u13 : Gt := (u12.give 0 true 105).2.2
set_option maxRecDepth 100000 in
theorem uq20 : u12.give 0 true 105 = (0, 0, u13) := Prod.ext (by decide +kernel) (Prod.ext (by decide +kernel) rfl)
def u14 : Gt := (u13.give 0 true 105).2.2
set_option maxRecDepth 100000 in
theorem uq21 : u13.give 0 true 105 = (0, 5, u14) := Prod.ext (by decide +kernel) (Prod.ext (by decide +kernel) rfl)
def u15 : Gt := (u14.give 2 true 105).2.2
set_option maxRecDepth 100000 in
theorem uq22 : u14.give 2 true 105 = (0, 3, u15) := Prod.ext (by decide +kernel) (Prod.ext (by decide +kernel) rfl)
set_option maxRecDepth 100000 in
theorem uq23 : u15.state 2 0 = (0, 0, 3) := by decide +kernel
set_option maxRecDepth 100000 in
theorem uq24 : u15.state 0 (-1) = (0, 0, 14) := by decide +kernel
set_option maxRecDepth 100000 in
theorem uq25 : u15.state 0 0 = ((u15.state 0 0).1, (u15.state 0 0).2.1, 0) := Prod.ext rfl (Prod.ext rfl (by decide +kernel))
set_option maxRecDepth 100000 in
theorem uq26 : u15.until 2 = (0, false) := by decide +kernel
set_option maxRecDepth 100000 in
set_option maxHeartbeats 4000000 in
theorem known_walk (w : World) (hT : SpTab w) (hTab : Tab w) : Calls Tryz.prog 7 #[] w fun e w' => e = .returned (.bool true) ∧ Below w.heap.size w w' := by
  have EX := Lib.hid (fun W => example_ok W)
  have TT := Lib.hid (fun W (hb : Below w.heap.size w W) => And.intro (hT.below hb) (tab_below hTab hb (tab_lt hTab)))
  clear hT hTab
  go_enter Tryz.func7, Tryz.ntmps7
  go_wp2_with fail
  refine (EX.out _).mono ?_
  rintro e_ w1 ⟨b, rfl, ⟨hB, -⟩, hb⟩
  have NW := Lib.hid (enew_ok w1 (TT.out w1 hb).1 (TT.out w1 hb).2 b hB hb (Nat.le_refl _))
  clear hB hb
  go_wp2_with fail
  refine (NW.out).mono ?_
  rintro e_ w2 ⟨Y, rfl, h⟩
  have HG := Lib.hid h
  clear h NW
  go_upto_region 2 with fail
  obtain ⟨v0, hv0⟩ : ∃ v0, v0 = w2.alloc (.cells #[.pointer (some ⟨Y.g, 0, none⟩)] 50) := ⟨_, rfl⟩
  have hb0 : Below w2.heap.size w2 v0 := by rw [hv0]; exact (Below.refl _ _).alloc (Nat.le_refl _) _
  have H0 : Hid (KHas w.heap.size w v0 w2.heap.size Y u0) := Lib.hid ⟨HG.out.below hb0, by rw [hv0]; exact Blk.new _ _ _⟩
  rw [← hv0]
  generalize w2.heap.size = b1 at *
  clear hv0 hb0 HG
  have c0 := H0.out.c
  go_wp2_with fail
  refine (gh_take H0.out.g 0 100 uq0).mono ?_
  rintro e_ v1 ⟨rfl, h1, h2⟩
  have H1 : Hid (KHas w.heap.size w v1 b1 Y u1) := Lib.hid (H0.out.next h1 h2)
  clear h1 h2 c0 H0
  have c1 := H1.out.c
  go_wp2_with fail
  refine (kh_why H1.out 0 100 uq1 (by decide)).mono ?_
  rintro e_ v2 ⟨rfl, h1⟩
  have H2 : Hid (KHas w.heap.size w v2 b1 Y u1) := Lib.hid h1
  clear h1 c1 H1
  have c2 := H2.out.c
  go_wp2_with fail
  refine (kh_why H2.out 1 100 uq2 (by decide)).mono ?_
  rintro e_ v3 ⟨rfl, h1⟩
  have H3 : Hid (KHas w.heap.size w v3 b1 Y u1) := Lib.hid h1
  clear h1 c2 H2
  have c3 := H3.out.c
  go_wp2_with fail
  refine (gh_take H3.out.g 1 100 uq3).mono ?_
  rintro e_ v4 ⟨rfl, h1, h2⟩
  have H4 : Hid (KHas w.heap.size w v4 b1 Y u2) := Lib.hid (H3.out.next h1 h2)
  clear h1 h2 c3 H3
  have c4 := H4.out.c
  go_wp2_with fail
  refine (kh_why H4.out 0 100 uq4 (by decide)).mono ?_
  rintro e_ v5 ⟨rfl, h1⟩
  have H5 : Hid (KHas w.heap.size w v5 b1 Y u2) := Lib.hid h1
  clear h1 c4 H4
  have c5 := H5.out.c
  go_wp2_with fail
  refine (kh_why H5.out 1 100 uq5 (by decide)).mono ?_
  rintro e_ v6 ⟨rfl, h1⟩
  have H6 : Hid (KHas w.heap.size w v6 b1 Y u2) := Lib.hid h1
  clear h1 c5 H5
  have c6 := H6.out.c
  go_wp2_with fail
  refine (gh_next H6.out.g 1 100 uq6).mono ?_
  rintro e_ v7 ⟨rfl, h1, h2⟩
  have H7 : Hid (KHas w.heap.size w v7 b1 Y u2) := Lib.hid (H6.out.next h1 h2)
  clear h1 h2 c6 H6
  have c7 := H7.out.c
  go_wp2_with fail
  refine (kh_give H7.out 0 false 101 uq7 (by decide)).mono ?_
  rintro e_ v8 ⟨rfl, h1⟩
  have H8 : Hid (KHas w.heap.size w v8 b1 Y u3) := Lib.hid h1
  clear h1 c7 H7
  have c8 := H8.out.c
  go_wp2_with fail
  refine (kh_why H8.out 0 101 uq8 (by decide)).mono ?_
  rintro e_ v9 ⟨rfl, h1⟩
  have H9 : Hid (KHas w.heap.size w v9 b1 Y u3) := Lib.hid h1
  clear h1 c8 H8
  have c9 := H9.out.c
  go_wp2_with fail
  refine (gh_state H9.out.g 0 101 uq9).mono ?_
  rintro e_ v10 ⟨rfl, h1, h2⟩
  have H10 : Hid (KHas w.heap.size w v10 b1 Y u3) := Lib.hid (H9.out.next h1 h2)
  clear h1 h2 c9 H9
  have c10 := H10.out.c
  go_wp2_with fail
  refine (gh_take H10.out.g 0 104 uq10).mono ?_
  rintro e_ v11 ⟨rfl, h1, h2⟩
  have H11 : Hid (KHas w.heap.size w v11 b1 Y u4) := Lib.hid (H10.out.next h1 h2)
  clear h1 h2 c10 H10
  have c11 := H11.out.c
  go_wp2_with fail
  refine (gh_take H11.out.g 1 99 uq11).mono ?_
  rintro e_ v12 ⟨rfl, h1, h2⟩
  have H12 : Hid (KHas w.heap.size w v12 b1 Y u5) := Lib.hid (H11.out.next h1 h2)
  clear h1 h2 c11 H11
  have c12 := H12.out.c
  go_wp2_with fail
  refine (gh_take H12.out.g 7 99 uq12).mono ?_
  rintro e_ v13 ⟨rfl, h1, h2⟩
  have H13 : Hid (KHas w.heap.size w v13 b1 Y u6) := Lib.hid (H12.out.next h1 h2)
  clear h1 h2 c12 H12
  have c13 := H13.out.c
  go_wp2_with fail
  refine (gh_take H13.out.g 7 (-1) uq13).mono ?_
  rintro e_ v14 ⟨rfl, h1, h2⟩
  have H14 : Hid (KHas w.heap.size w v14 b1 Y u7) := Lib.hid (H13.out.next h1 h2)
  clear h1 h2 c13 H13
  have c14 := H14.out.c
  go_wp2_with fail
  refine (kh_why H14.out 0 100 uq14 (by decide)).mono ?_
  rintro e_ v15 ⟨rfl, h1⟩
  have H15 : Hid (KHas w.heap.size w v15 b1 Y u7) := Lib.hid h1
  clear h1 c14 H14
  have c15 := H15.out.c
  go_wp2_with fail
  refine (gh_reset H15.out.g 0 102 uq15).mono ?_
  rintro e_ v16 ⟨rfl, h1, h2⟩
  have H16 : Hid (KHas w.heap.size w v16 b1 Y u8) := Lib.hid (H15.out.next h1 h2)
  clear h1 h2 c15 H15
  have c16 := H16.out.c
  go_wp2_with fail
  refine (gh_take H16.out.g 0 105 uq16).mono ?_
  rintro e_ v17 ⟨rfl, h1, h2⟩
  have H17 : Hid (KHas w.heap.size w v17 b1 Y u9) := Lib.hid (H16.out.next h1 h2)
  clear h1 h2 c16 H16
  have c17 := H17.out.c
  go_wp2_with fail
  refine (gh_trip H17.out.g 1 106 uq17).mono ?_
  rintro e_ v18 ⟨rfl, h1, h2⟩
  have H18 : Hid (KHas w.heap.size w v18 b1 Y u10) := Lib.hid (H17.out.next h1 h2)
  clear h1 h2 c17 H17
  have c18 := H18.out.c
  go_wp2_with fail
  refine (gh_reset H18.out.g 1 106 uq18).mono ?_
  rintro e_ v19 ⟨rfl, h1, h2⟩
  have H19 : Hid (KHas w.heap.size w v19 b1 Y u11) := Lib.hid (H18.out.next h1 h2)
  clear h1 h2 c18 H18
  have c19 := H19.out.c
  go_wp2_with fail
  refine (kh_give H19.out 0 true 104 uq19 (by decide)).mono ?_
  rintro e_ v20 ⟨rfl, h1⟩
  have H20 : Hid (KHas w.heap.size w v20 b1 Y u12) := Lib.hid h1
  clear h1 c19 H19
  have c20 := H20.out.c
  go_wp2_with fail
  refine (kh_give H20.out 0 true 105 uq20 (by decide)).mono ?_
  rintro e_ v21 ⟨rfl, h1⟩
  have H21 : Hid (KHas w.heap.size w v21 b1 Y u13) := Lib.hid h1
  clear h1 c20 H20
  have c21 := H21.out.c
  go_wp2_with fail
  refine (kh_give H21.out 0 true 105 uq21 (by decide)).mono ?_
  rintro e_ v22 ⟨rfl, h1⟩
  have H22 : Hid (KHas w.heap.size w v22 b1 Y u14) := Lib.hid h1
  clear h1 c21 H21
  have c22 := H22.out.c
  go_wp2_with fail
  refine (kh_give H22.out 2 true 105 uq22 (by decide)).mono ?_
  rintro e_ v23 ⟨rfl, h1⟩
  have H23 : Hid (KHas w.heap.size w v23 b1 Y u15) := Lib.hid h1
  clear h1 c22 H22
  have c23 := H23.out.c
  go_wp2_with fail
  refine (gh_state H23.out.g 2 0 uq23).mono ?_
  rintro e_ v24 ⟨rfl, h1, h2⟩
  have H24 : Hid (KHas w.heap.size w v24 b1 Y u15) := Lib.hid (H23.out.next h1 h2)
  clear h1 h2 c23 H23
  have c24 := H24.out.c
  go_wp2_with fail
  refine (gh_state H24.out.g 0 (-1) uq24).mono ?_
  rintro e_ v25 ⟨rfl, h1, h2⟩
  have H25 : Hid (KHas w.heap.size w v25 b1 Y u15) := Lib.hid (H24.out.next h1 h2)
  clear h1 h2 c24 H24
  have c25 := H25.out.c
  go_wp2_with fail
  refine (gh_state H25.out.g 0 0 uq25).mono ?_
  rintro e_ v26 ⟨rfl, h1, h2⟩
  have H26 : Hid (KHas w.heap.size w v26 b1 Y u15) := Lib.hid (H25.out.next h1 h2)
  clear h1 h2 c25 H25
  have c26 := H26.out.c
  go_wp2_with fail
  refine (gh_until H26.out.g 2 uq26).mono ?_
  rintro e_ v27 ⟨rfl, h1, h2⟩
  have H27 : Hid (KHas w.heap.size w v27 b1 Y u15) := Lib.hid (H26.out.next h1 h2)
  clear h1 h2 c26 H26
  go_wp2_with fail
  refine (example_lit _).mono ?_
  rintro e_ z1 ⟨q, rfl, hB, hq, hb⟩
  have hqw : w.heap.size ≤ q := Nat.le_trans H27.out.g.bel.size hq
  have HZ := Lib.hid (H27.out.g.bel.trans (hb.mono H27.out.g.bel.size))
  have HQ := Lib.hid hB
  clear hB hb hq H27
  go_upto_region 21 with fail
  obtain ⟨z2, hz2⟩ : ∃ z2, z2 = z1.alloc (.cells #[.int .i64 2, .int .i64 5, .int .i64 5, .int .i64 60, .int .u64 0, .int .i64 5, .int .i64 5, .slice (some ⟨q, 0, none⟩) 2 2] 32) := ⟨_, rfl⟩
  have hb2 : Below z1.heap.size z1 z2 := by rw [hz2]; exact (Below.refl _ _).alloc (Nat.le_refl _) _
  have X2 : Hid (Blk z2 z1.heap.size 32 #[.int .i64 2, .int .i64 5, .int .i64 5, .int .i64 60, .int .u64 0, .int .i64 5, .int .i64 5, .slice (some ⟨q, 0, none⟩) 2 2]) := Lib.hid (by rw [hz2]; exact Blk.new _ _ _)
  have Q2 := Lib.hid (HQ.out.below hb2 HQ.out.lt)
  have B2 := Lib.hid (HZ.out.trans (hb2.mono HZ.out.size))
  rw [← hz2]
  generalize z1.heap.size = zc at *
  clear hz2 hb2 HQ HZ
  have s30 : z2.cell? ⟨q, 30, none⟩ = some (.string ⟨#[98]⟩) := Q2.out.cell 30
  have f30 : z2.frozen? ⟨q, 30, none⟩ = false := Q2.out.frozen 30
  have k7 : z2.cell? ⟨zc, 7, none⟩ = some (.slice (some ⟨q, 0, none⟩) 2 2) := X2.out.cell 7
  go_upto_region 22 with fail
  obtain ⟨z3, hz3⟩ : ∃ z3, z3 = z2.setCell ⟨q, 30, none⟩ (.string ⟨#[97]⟩) := ⟨_, rfl⟩
  have Q3 := Lib.hid (show Blk z3 q 49 (eCells.setIfInBounds 30 (.string ⟨#[97]⟩)) by rw [hz3]; exact nameSet z2 q Q2.out)
  have X3 : Hid (Blk z3 zc 32 #[.int .i64 2, .int .i64 5, .int .i64 5, .int .i64 60, .int .u64 0, .int .i64 5, .int .i64 5, .slice (some ⟨q, 0, none⟩) 2 2]) := Lib.hid (by rw [hz3]; exact X2.out.far (blk_ne X2.out Q2.out (by decide)) _)
  have B3 : Hid (Below w.heap.size w z3) := Lib.hid (by rw [hz3]; exact B2.out.setCell hqw _)
  rw [← hz3]
  clear hz3 s30 f30 k7 Q2 X2 B2
  have k0 : z3.cell? ⟨zc, 0, none⟩ = some (.int .i64 2) := X3.out.cell 0
  have k1 : z3.cell? ⟨zc, 1, none⟩ = some (.int .i64 5) := X3.out.cell 1
  have k2 : z3.cell? ⟨zc, 2, none⟩ = some (.int .i64 5) := X3.out.cell 2
  have k3 : z3.cell? ⟨zc, 3, none⟩ = some (.int .i64 60) := X3.out.cell 3
  have k4 : z3.cell? ⟨zc, 4, none⟩ = some (.int .u64 0) := X3.out.cell 4
  have k5 : z3.cell? ⟨zc, 5, none⟩ = some (.int .i64 5) := X3.out.cell 5
  have k6 : z3.cell? ⟨zc, 6, none⟩ = some (.int .i64 5) := X3.out.cell 6
  have k7 : z3.cell? ⟨zc, 7, none⟩ = some (.slice (some ⟨q, 0, none⟩) 2 2) := X3.out.cell 7
  have NN := gnew_no (eC q) eL2 z3 (e_arg2 Q3.out (TT.out z3 B3.out).1 (TT.out z3 B3.out).2) (by rw [show (eC q).g = eG from rfl, e_have]; decide)
  rw [show (eC q).g = eG from rfl, e_have] at NN
  have NN' := Lib.hid NN
  clear NN
  go_wp2_with fail
  refine (NN'.out).mono ?_
  rintro e_ z4 ⟨rfl, hb⟩
  have B4 := Lib.hid (B3.out.trans (hb.mono B3.out.size))
  clear hb X3 Q3 B3 NN'
  go_wp2_with fail
  refine (aworks_ok z4 (TT.out z4 B4.out).1 (TT.out z4 B4.out).2).mono ?_
  rintro e_ z5 ⟨rfl, hb⟩
  have B5 := Lib.hid (B4.out.trans (hb.mono B4.out.size))
  clear hb
  go_wp2_with fail
  go_ret
  exact ⟨rfl, B5.out⟩
end Go.Proofs.YtmbnmfcjbbfkoaaGreatDoor.AD
