/- The walk of MatchKnown. -/
import Derived.Test.YtepoegcpfhjlpaaDoorMKnowC
namespace Go.Proofs.YtepoegcpfhjlpaaDoor.BW
open Go.RowKit BM Go.Shelf MC
open BK hiding ret_bool ret_i64

set_option maxRecDepth 20000 in
set_option maxHeartbeats 8000000 in
theorem mknown_ok (w : World) (hT : SpTab w) (hTab : Tab w) : Calls Tryd.prog 14 #[] w fun e w' =>
    e = .returned (.bool true) ∧ Below w.heap.size w w' := by
  have HT := Lib.hid (And.intro hT hTab)
  clear hT hTab
  go_enter Tryd.func14, Tryd.ntmps14
  go_wp2_with fail
  refine (star_ok w).mono ?_
  rintro e w1 ⟨rfl, hb⟩
  unfold starV
  have HK : Hid (KnI w w1.heap.size (((w1.alloc (.cells (exV kDay) 24)).alloc (.cells (exV kLeap) 24)).alloc (.cells (exV kNever) 24))) := by
    have h1 : Below w1.heap.size w1 (((w1.alloc (.cells (exV kDay) 24)).alloc (.cells (exV kLeap) 24)).alloc (.cells (exV kNever) 24)) := (((Below.refl _ w1).alloc (Nat.le_refl _) _).alloc (by simp) _).alloc (by simp; omega) _
    have h2 := hb.trans (h1.mono hb.size)
    exact Lib.hid ⟨h2, ((Blk.new w1 _ _).alloc _).alloc _, (Blk.newAt (by simp)).alloc _, Blk.newAt (by simp), HT.out.1.below h2, tab_below HT.out.2 h2 (tab_lt HT.out.2)⟩
  clear hb
  go_wp2_with fail
  refine (q1 (HK.out)).mono ?_
  rintro e w2 ⟨rfl, hb⟩
  obtain ⟨c0, c1, c2, c3, c4, c5, c6, c7⟩ := hb.c2
  have K2 := Lib.hid hb
  clear hb HK
  go_wp2_with fail
  refine (q2 (K2.out)).mono ?_
  rintro e w3 ⟨rfl, hb⟩
  clear c0 c1 c2 c3 c4 c5 c6 c7
  obtain ⟨c0, c1, c2, c3, c4, c5, c6, c7⟩ := hb.c3
  have K3 := Lib.hid hb
  clear hb K2
  go_wp2_with fail
  refine (q3 (K3.out)).mono ?_
  rintro e w4 ⟨rfl, hb⟩
  clear c0 c1 c2 c3 c4 c5 c6 c7
  obtain ⟨c0, c1, c2, c3, c4, c5, c6, c7⟩ := hb.c3
  have K4 := Lib.hid hb
  clear hb K3
  go_wp2_with fail
  refine (q4 (K4.out)).mono ?_
  rintro e w5 ⟨rfl, hb⟩
  clear c0 c1 c2 c3 c4 c5 c6 c7
  obtain ⟨c0, c1, c2, c3, c4, c5, c6, c7⟩ := hb.c1
  have K5 := Lib.hid hb
  clear hb K4
  go_wp2_with fail
  refine (q5 (K5.out)).mono ?_
  rintro e w6 ⟨rfl, hb⟩
  clear c0 c1 c2 c3 c4 c5 c6 c7
  obtain ⟨c0, c1, c2, c3, c4, c5, c6, c7⟩ := hb.c1
  have K6 := Lib.hid hb
  clear hb K5
  go_wp2_with fail
  refine (q6 (K6.out)).mono ?_
  rintro e w7 ⟨rfl, hb⟩
  clear c0 c1 c2 c3 c4 c5 c6 c7
  obtain ⟨c0, c1, c2, c3, c4, c5, c6, c7⟩ := hb.c1
  have K7 := Lib.hid hb
  clear hb K6
  go_wp2_with fail
  refine (q7 (K7.out)).mono ?_
  rintro e w8 ⟨rfl, hb⟩
  clear c0 c1 c2 c3 c4 c5 c6 c7
  obtain ⟨c0, c1, c2, c3, c4, c5, c6, c7⟩ := hb.c1
  have K8 := Lib.hid hb
  clear hb K7
  go_wp2_with fail
  refine (q8 (K8.out)).mono ?_
  rintro e w9 ⟨rfl, hb⟩
  clear c0 c1 c2 c3 c4 c5 c6 c7
  obtain ⟨c0, c1, c2, c3, c4, c5, c6, c7⟩ := hb.c1
  have K9 := Lib.hid hb
  clear hb K8
  go_wp2_with fail
  refine (q9 (K9.out)).mono ?_
  rintro e w10 ⟨rfl, hb⟩
  clear c0 c1 c2 c3 c4 c5 c6 c7
  obtain ⟨c0, c1, c2, c3, c4, c5, c6, c7⟩ := hb.c1
  have K10 := Lib.hid hb
  clear hb K9
  go_wp2_with fail
  refine (q10 (K10.out)).mono ?_
  rintro e w11 ⟨⟨p, k, rfl⟩, hb⟩
  clear c0 c1 c2 c3 c4 c5 c6 c7
  obtain ⟨c0, c1, c2, c3, c4, c5, c6, c7⟩ := hb.c1
  have K11 := Lib.hid hb
  clear hb K10
  go_wp2_with fail
  refine (q11 (K11.out.alloc _)).mono ?_
  rintro e w12 ⟨⟨r1, rfl⟩, hb⟩
  clear c0 c1 c2 c3 c4 c5 c6 c7
  obtain ⟨c0, c1, c2, c3, c4, c5, c6, c7⟩ := hb.c1
  have K12 := Lib.hid hb
  clear hb K11
  go_wp2_with fail
  refine (q12 (K12.out)).mono ?_
  rintro e w13 ⟨⟨r2, rfl⟩, hb⟩
  clear c0 c1 c2 c3 c4 c5 c6 c7
  obtain ⟨c0, c1, c2, c3, c4, c5, c6, c7⟩ := hb.c1
  have K13 := Lib.hid hb
  clear hb K12
  go_wp2_with fail
  refine (q13 (K13.out)).mono ?_
  rintro e w14 ⟨⟨r3, rfl⟩, hb⟩
  clear c0 c1 c2 c3 c4 c5 c6 c7
  obtain ⟨c0, c1, c2, c3, c4, c5, c6, c7⟩ := hb.c1
  have K14 := Lib.hid hb
  clear hb K13
  go_wp2_with fail
  refine (q14 (K14.out)).mono ?_
  rintro e w15 ⟨⟨r4, rfl⟩, hb⟩
  clear c0 c1 c2 c3 c4 c5 c6 c7
  have K15 := Lib.hid hb
  clear hb K14
  go_wp2_with fail
  refine (q15 K15.out).mono ?_
  rintro e w16 ⟨rfl, hb⟩
  have K16 := Lib.hid hb
  clear hb K15
  go_wp2_with fail
  refine (q16 K16.out).mono ?_
  rintro e w17 ⟨rfl, hb⟩
  have K17 := Lib.hid hb
  clear hb K16
  go_wp2_with fail
  refine (q17 K17.out).mono ?_
  rintro e w18 ⟨rfl, hb⟩
  go_wp2_with fail
  go_ret
  exact ⟨rfl, hb.below⟩
end Go.Proofs.YtepoegcpfhjlpaaDoor.BW
