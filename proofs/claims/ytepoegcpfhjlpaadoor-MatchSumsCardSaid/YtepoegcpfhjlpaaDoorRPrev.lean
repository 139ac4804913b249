/- Contract of the reference's Prev. -/
import Derived.Test.YtepoegcpfhjlpaaDoorRNext
import Derived.Test.YtepoegcpfhjlpaaDoorMatP
import Derived.Test.YtepoegcpfhjlpaaDoorMatT
namespace Go.Proofs.YtepoegcpfhjlpaaDoor.BW
open Go.RowKit BM Go.Shelf MC
open BK hiding ret_bool ret_i64

noncomputable def j1 : Nat → Int
  | 0 => 1969
  | n + 1 => ((ymd n).1 : Nat)
noncomputable def j2 : Nat → Int
  | 0 => 12
  | n + 1 => ((ymd n).2.1 : Nat)
noncomputable def j3 : Nat → Int
  | 0 => 31
  | n + 1 => ((ymd n).2.2 : Nat)
def j4 : Nat → Int
  | 0 => 3
  | n + 1 => ((n + 4) % 7 : Nat)
/-- The day before the k-th one. -/
noncomputable def dtJ (k : Nat) : Array Value := #[.int .i64 ((k : Int) - 1), .int .i64 (j1 k), .int .i64 (j2 k), .int .i64 (j3 k), .int .i64 (j4 k)]
theorem dtJ_succ (n : Nat) : dtJ (n + 1) = dtV n := by
  unfold dtJ dtV
  rw [show (((n + 1 : Nat) : Int) - 1) = n from by omega]
  rfl
structure DayJ (w : World) (x : Ex) (b d k : Nat) (W : World) : Prop where
  xb : Blk W b 24 (exV x)
  db : Blk W d 57 (dtJ k)
  below : Below w.heap.size w W
theorem DayI.j {w : World} {x : Ex} {b d n : Nat} {W : World} (h : DayI w x b d n W) : DayJ w x b d (n + 1) W := ⟨h.xb, by rw [dtJ_succ]; exact h.db, h.below⟩
theorem DayJ.i {w : World} {x : Ex} {b d n : Nat} {W : World} (h : DayJ w x b d (n + 1) W) : DayI w x b d n W := ⟨h.xb, by rw [← dtJ_succ]; exact h.db, h.below⟩
theorem DayJ.cell0 {w : World} {x : Ex} {b d k : Nat} {W : World} (h : DayJ w x b d k W) : W.cell? ⟨d, 0, none⟩ = some (.int .i64 ((k : Int) - 1)) := h.db.cell 0
theorem DayI.back {w : World} {x : Ex} {b d n : Nat} {W : World} (hn : n ≤ 2932896) (h : DayI w x b d n W) : Calls Tryd.prog 42 #[.agg #[.int .i64 n, .int .i64 ((ymd n).1 : Nat), .int .i64 ((ymd n).2.1 : Nat), .int .i64 ((ymd n).2.2 : Nat), .int .i64 ((n + 4) % 7 : Nat)], .bool true] W fun e W' =>
    e = .returned (.agg #[.int .i64 ((n : Int) - 1), .int .i64 (j1 n), .int .i64 (j2 n), .int .i64 (j3 n), .int .i64 (j4 n)]) ∧ DayI w x b d n W' := by
  cases n with
  | zero => exact (onb_zero W).mono fun _ _ ⟨h1, h2⟩ => ⟨h1, h.next h2⟩
  | succ m =>
    refine (onb_succ m hn W).mono fun _ _ ⟨h1, h2⟩ => ⟨?_, h.next h2⟩
    rw [h1, ← dtJ_succ]
    rfl
theorem DayI.last {w : World} {x : Ex} {b d n : Nat} {W : World} (hx : U64s x) {a : Nat} (ha : a < 86400) (h : DayI w x b d n W) : Calls Tryd.prog 50 #[.agg #[.int .u64 x.s, .int .u64 x.mi, .int .u64 x.h, .int .u64 x.d, .int .u64 x.mo, .int .u64 x.w, .bool x.ad, .bool x.aw], .int .i64 a] W fun e W' =>
    e = .returned (.int .i64 (neg1 (lst x a))) ∧ DayI w x b d n W' := (rlast_ok x hx a ha W).mono fun _ _ ⟨h1, h2⟩ => ⟨h1, h.next h2⟩
theorem DayI.setJ {w : World} {x : Ex} {b d n : Nat} {W : World} (h : DayI w x b d n W) (hd : w.heap.size ≤ d) (hbd : b ≠ d) (m : Nat) :
    DayJ w x b d m (((((W.setCell ⟨d, 0, none⟩ (.int .i64 ((m : Int) - 1))).setCell ⟨d, 1, none⟩ (.int .i64 (j1 m))).setCell ⟨d, 2, none⟩ (.int .i64 (j2 m))).setCell ⟨d, 3, none⟩ (.int .i64 (j3 m))).setCell ⟨d, 4, none⟩ (.int .i64 (j4 m))) :=
  ⟨((((h.xb.far (by exact hbd) _).far (by exact hbd) _).far (by exact hbd) _).far (by exact hbd) _).far (by exact hbd) _, ((((h.db.set_ 0 _).set_ 1 _).set_ 2 _).set_ 3 _).set_ 4 _,
   ((((h.below.setCell hd _).setCell hd _).setCell hd _).setCell hd _).setCell hd _⟩
theorem before_found {x : Ex} {z t : Int} {l : Nat} (hz : -840 ≤ z ∧ z ≤ 840) (ht : t ≤ 253402300799) (h1 : (l : Int) ≤ t - 1 + z * 60) (h2 : z * 60 ≤ l ∧ (l : Int) ≤ 253402300799) (h3 : T x l = true) (h4 : ∀ m : Nat, l < m → (m : Int) ≤ t - 1 + z * 60 → (m : Int) ≤ 253402300799 → T x m = false) : beforeV x z t = some (l - z * 60) := by
  refine (beforeV_some hz).2 ⟨by omega, ?_, fun m m1 m2 => ?_⟩
  · unfold At
    rw [show ((l : Int) - z * 60 + z * 60).toNat = l from by omega, h3, decide_eq_true (by omega)]; rfl
  · cases hA : At x z m
    · rfl
    · have hr := At_range hA
      have := h4 (m + z * 60).toNat (by omega) (by omega) (by omega)
      rw [At_T hA] at this; cases this
theorem before_none {x : Ex} {z t : Int} (hz : -840 ≤ z ∧ z ≤ 840) (h : ∀ m : Nat, (m : Int) ≤ t - 1 + z * 60 → (m : Int) ≤ 253402300799 → z * 60 ≤ m → T x m = false) : beforeV x z t = none := by
  refine (beforeV_none hz).2 fun m hm => ?_
  cases hA : At x z m
  · rfl
  · have hr := At_range hA
    have := h (m + z * 60).toNat (by omega) (by omega) (by omega)
    rw [At_T hA] at this; cases this
def ClJ (x : Ex) (hi k : Nat) : Prop := ∀ l, l ≤ hi → k * 86400 ≤ l → T x l = false
theorem ClJ.skip {x : Ex} {hi d : Nat} (h : ClJ x hi (d + 1)) (hm : MC.M x d = false) : ClJ x hi d := by
  intro l h1 h2
  rcases Nat.lt_or_ge l ((d + 1) * 86400) with hlt | hge
  · unfold T
    have e : l / 86400 = d := by omega
    rw [e, hm]; rfl
  · exact h l h1 hge
theorem ClJ.none {x : Ex} {hi d : Nat} (h : ClJ x hi (d + 1)) (hf : lst x (min 86399 (hi - d * 86400)) = none) : ClJ x hi d := by
  intro l h1 h2
  rcases Nat.lt_or_ge l ((d + 1) * 86400) with hlt | hge
  · unfold T
    have := lst_none.1 hf (l % 86400) (by omega) (by omega)
    rw [this, Bool.and_false]
  · exact h l h1 hge
theorem clj_all {x : Ex} {hi k : Nat} (hok : x.Ok) (h : ClJ x hi k) (hd : k + 2924 ≤ hi / 86400) (l : Nat) : T x l = false := by
  refine T_never (fun m => M_never (k := k) (fun n n1 n2 => ?_) m) l
  cases hm : MC.M x n
  · rfl
  · obtain ⟨s, s1, s2⟩ := hok.some_second
    have := h (n * 86400 + s) (by omega) (by omega)
    rw [T_at x n s s1, hm, s2] at this; cases this

set_option maxRecDepth 8000 in
set_option maxHeartbeats 4000000 in
theorem rprev_ok (x : Ex) (hx : U64s x) (z t : Int) (w : World) : Calls Tryd.prog 31 #[.agg (exV x), .int .i64 z, .int .i64 t] w fun e w' =>
    e = .returned (.tuple #[.int .i64 (optI (pvV x z t)), .bool (pvV x z t).isSome, .int .i64 (chk x z [t])]) ∧ Below w.heap.size w w' := by
  have HOK := Lib.hid (fun h => pvV_ok (x := x) (z := z) (t := t) h)
  have HBAD := Lib.hid (fun h => pvV_bad (x := x) (z := z) (t := t) h)
  generalize pvV x z t = R at *
  have HX := Lib.hid hx
  obtain ⟨W1, hW1⟩ : ∃ W1, W1 = (w.alloc (.cells (exV x) 24)).alloc (.cells #[.int .i64 t] 2) := ⟨_, rfl⟩
  have hbx : Blk W1 w.heap.size 24 (exV x) := by rw [hW1]; exact (Blk.new w _ _).alloc _
  have hts : Blk W1 (w.heap.size + 1) 2 #[.int .i64 t] := by rw [hW1]; exact Blk.newAt (by simp)
  have hB1 : Below w.heap.size w W1 := by rw [hW1]; exact ((Below.refl _ w).alloc (Nat.le_refl _) _).alloc (by simp) _
  have CK := Lib.hid (rpcheck_ok x hx z [t] (w.heap.size + 1) 1 1 rfl (by decide) W1 (fun k hk => by
    have : k = 0 := by simpa using hk
    subst this; exact hts.cell 0))
  have HW1 := Lib.hid hW1
  rw [hW1] at CK
  clear hW1 hx
  have e0 : exV x = #[.int .u64 x.s, .int .u64 x.mi, .int .u64 x.h, .int .u64 x.d, .int .u64 x.mo, .int .u64 x.w, .bool x.ad, .bool x.aw] := rfl
  rw [e0]
  clear e0
  unfold exV at CK
  go_enter Tryd.func31, Tryd.ntmps31
  go_wp2_with fail
  refine (CK.out).mono ?_
  rintro e w2 ⟨rfl, hb⟩
  have hb : Below W1.heap.size W1 w2 := by rw [HW1.out]; exact hb
  have hx2 := hbx.below hb hbx.lt
  have HB2 := Lib.hid (hB1.trans (hb.mono hB1.size))
  have HX2 := Lib.hid hx2
  clear hb hbx hB1 CK HW1 hts hx2
  by_cases hcz : chk x z [t] = 0
  · obtain ⟨o1, hz, o3⟩ := chk_zero hcz
    have ht := o3 t (by simp)
    have HCZ := Lib.hid hcz
    have hRF := HOK.out hcz
    have HO := Lib.hid (ok_of_ck o1)
    obtain ⟨be, ebe⟩ : ∃ n : Nat, max (0 : Int) (z * 60) = n := ⟨(max (0 : Int) (z * 60)).toNat, by omega⟩
    clear o1 o3 HOK HBAD
    by_cases hlb : min (t - 1 + z * 60) 253402300799 < be
    · have hlt : decide (min (t - 1 + z * 60) 253402300799 < (be : Int)) = true := decide_eq_true hlb
      have HRR : R = none := hRF.trans (before_none hz fun m m1 m2 m3 => by omega)
      subst HRR
      clear hlb
      go_wp2_with fail
      go_ret3
      exact ⟨ret_ibe rfl rfl (by first | rfl | exact HCZ.out.symm), HB2.out⟩
    · obtain ⟨hi, ehi⟩ : ∃ n : Nat, min (t - 1 + z * 60) 253402300799 = n := ⟨(min (t - 1 + z * 60) 253402300799).toNat, by omega⟩
      rw [ehi] at hlb
      have hlt : decide (hi < be) = false := decide_eq_false (by omega)
      have HF : Hid (∀ l : Nat, l ≤ hi → be ≤ l → T x l = true → (∀ m, l < m → m ≤ hi → T x m = false) → R = some (l - z * 60)) := Lib.hid (fun l h1 h2 h3 h4 =>
        hRF.trans (before_found hz ht.2 (by omega) (by omega) h3 fun m m1 m2 m3 => h4 m m1 (by omega)))
      have HN : Hid ((∀ l, be ≤ l → l ≤ hi → T x l = false) → R = none) := Lib.hid (fun h => hRF.trans (before_none hz fun m m1 m2 m3 => h m (by omega) (by omega)))
      obtain ⟨d0, hd0⟩ : ∃ n : Nat, n = hi / 86400 := ⟨_, rfl⟩
      have en : (hi : Int) / 86400 = (d0 : Int) := by omega
      obtain ⟨a0, ha0⟩ : ∃ n : Nat, n = hi % 86400 := ⟨_, rfl⟩
      have ea : (hi : Int) % 86400 = (a0 : Int) := by omega
      have hh9 : hi ≤ 253402300799 := by omega
      have hbe9 : be ≤ 50400 := by omega
      have hd2 : d0 ≤ 2932896 := by omega
      have HA0 := Lib.hid (show a0 = min 86399 (hi - d0 * 86400) by omega)
      have HD0 := Lib.hid hd0
      clear hd0 ha0 hlb hRF
      go_wp2_with fail
      refine (rdt_ok d0 hd2 _).mono ?_
      rintro e w3 ⟨rfl, hb⟩
      have HB3 := Lib.hid (HB2.out.trans (hb.mono HB2.out.size))
      have HX3 := Lib.hid (HX2.out.below hb HX2.out.lt)
      clear hb HB2 HX2
      have H4 : Hid (DayI w x w.heap.size w3.heap.size d0 (w3.alloc (.cells (dtV d0) 57))) := Lib.hid ⟨HX3.out.alloc _, Blk.new _ _ _, HB3.out.alloc HB3.out.size _⟩
      have hlt3 : w.heap.size < w3.heap.size := HX3.out.lt
      clear HB3 HX3
      unfold dtV
      unfold dtV at H4
      go_wp2_with fail
      go_loopw [14, 15] (fun s14 s15 wr => ∃ n k a : Nat, n ≤ 2925 ∧ k + n = d0 + 1 ∧ (0 < k → a = min 86399 (hi - (k - 1) * 86400)) ∧ s14 = .int .i64 a ∧ s15 = .int .i64 n ∧ DayJ w x w.heap.size w3.heap.size k wr ∧ ClJ x hi k ∧ a < 86400) (fun _ s15 _ => 2925 - intM s15)
      case atStart => exact ⟨0, d0 + 1, a0, by omega, rfl, fun _ => by rw [Nat.add_sub_cancel]; exact HA0.out, by first | rfl | rw [ea], rfl, H4.out.j, fun l h1 h2 => by have := HD0.out; omega, by have := HA0.out; omega⟩
      case round =>
        clear H4 HA0 en ea
        obtain ⟨n, k, a, hn, hkn, hak, rfl, rfl, hD, hcl, ha⟩ := hrel
        cases k with
        | zero =>
          have HRR := HN.out (fun l _ h2 => hcl l h2 (by rw [Nat.zero_mul]; exact Nat.zero_le _))
          subst HRR
          have d0' : wr.cell? ⟨w3.heap.size, 0, none⟩ = some (.int .i64 (-1)) := hD.cell0
          have HB9 := Lib.hid hD.below
          clear hcl hkn hak hD
          go_wp2_with fail
          all_goals
            go_ret3
            exact ⟨ret_ibe rfl rfl (by first | rfl | exact HCZ.out.symm), HB9.out⟩
        | succ d =>
          have HAK := Lib.hid (hak (by omega))
          have HKN := Lib.hid hkn
          have HD := Lib.hid hD.i
          have HCL := Lib.hid hcl
          have hdd0 : d ≤ d0 := by omega
          clear hD hcl hak hkn
          obtain ⟨c0, c1, c2, c3, c4, c5, c6, c7⟩ := HD.out.cells
          obtain ⟨d0', d1, d2, d3, d4⟩ := HD.out.dcells
          have hdpos : decide ((0 : Int) ≤ d) = true := decide_eq_true (by omega)
          have hd9 : d ≤ 2932896 := by omega
          have hd8 : 0 ≤ (d : Int) * 86400 ∧ (d : Int) * 86400 ≤ 253402300799 := by have := HD0.out; omega
          rcases Nat.lt_or_ge n 2925 with hlt2 | hge
          · have hl : decide (n ≤ 2924) = true := decide_eq_true (by omega)
            have hl' : decide ((n : Int) ≤ 2924) = true := decide_eq_true (by omega)
            by_cases hend : be ≤ d * 86400 + 86399
            · have he : decide (be ≤ d * 86400 + 86399) = true := decide_eq_true hend
              have he' : decide ((be : Int) ≤ (d : Int) * 86400 + 86399) = true := decide_eq_true (by omega)
              have CM := Lib.hid (HD.out.matches HX.out)
              have CO := Lib.hid (fun W (h : DayI w x w.heap.size w3.heap.size d W) => h.back hd9)
              have CF := Lib.hid (fun W (h : DayI w x w.heap.size w3.heap.size d W) => h.last HX.out ha)
              have HNX : Hid (∀ W, ClJ x hi d → DayJ w x w.heap.size w3.heap.size d W → (∃ n_1 k a : Nat, n_1 ≤ 2925 ∧ k + n_1 = d0 + 1 ∧ (0 < k → a = min 86399 (hi - (k - 1) * 86400)) ∧ Value.int .i64 86399 = .int .i64 a ∧ Value.int .i64 (n + 1) = .int .i64 n_1 ∧ DayJ w x w.heap.size w3.heap.size k W ∧ ClJ x hi k ∧ a < 86400) ∧ 2925 - intM (.int .i64 (n + 1)) < 2925 - intM (.int .i64 n)) := Lib.hid (by
                rintro W h1 h2
                refine ⟨⟨n + 1, d, 86399, by omega, by have := HKN.out; omega, fun hk => ?_, rfl, by go_num, h2, h1, by omega⟩, by simp [intM]; omega⟩
                have := HD0.out
                have := HKN.out
                omega)
              obtain ⟨b, hb⟩ : ∃ b, MC.M x d = b := ⟨_, rfl⟩
              rw [hb] at CM
              have HM := Lib.hid hb
              clear hb hend hlt2 hdd0
              cases b
              · go_wp2_with fail
                refine (CM.out).mono ?_
                rintro e w5 ⟨rfl, hb⟩
                clear c0 c1 c2 c3 c4 c5 c6 c7 d0' d1 d2 d3 d4 CF
                obtain ⟨d0', d1, d2, d3, d4⟩ := hb.dcells
                have H5 := Lib.hid hb
                clear hb CM
                go_wp2_with fail
                refine (CO.out _ H5.out).mono ?_
                rintro e w6 ⟨rfl, hb⟩
                clear d0' d1 d2 d3 d4
                obtain ⟨d0', d1, d2, d3, d4⟩ := hb.dcells
                obtain ⟨f0, f1, f2, f3, f4⟩ := hb.frozen
                have H6 := Lib.hid hb
                clear hb H5
                go_wp2_with fail
                exact HNX.out _ (HCL.out.skip HM.out) (H6.out.setJ (by omega) (by omega) d)
              · obtain ⟨r, hr⟩ : ∃ r, lst x a = r := ⟨_, rfl⟩
                rw [hr] at CF
                have HR := Lib.hid hr
                clear hr
                cases r with
                | none =>
                  unfold neg1 at CF
                  go_wp2_with fail
                  refine (CM.out).mono ?_
                  rintro e w5 ⟨rfl, hb⟩
                  clear c0 c1 c2 c3 c4 c5 c6 c7 d0' d1 d2 d3 d4
                  obtain ⟨c0, c1, c2, c3, c4, c5, c6, c7⟩ := hb.cells
                  have H5 := Lib.hid hb
                  clear hb CM
                  go_wp2_with fail
                  refine (CF.out _ H5.out).mono ?_
                  rintro e w6 ⟨rfl, hb⟩
                  clear c0 c1 c2 c3 c4 c5 c6 c7
                  obtain ⟨d0', d1, d2, d3, d4⟩ := hb.dcells
                  have H6 := Lib.hid hb
                  clear hb H5 CF
                  go_wp2_with fail
                  refine (CO.out _ H6.out).mono ?_
                  rintro e w7 ⟨rfl, hb⟩
                  clear d0' d1 d2 d3 d4
                  obtain ⟨d0', d1, d2, d3, d4⟩ := hb.dcells
                  obtain ⟨f0, f1, f2, f3, f4⟩ := hb.frozen
                  have H7 := Lib.hid hb
                  clear hb H6
                  go_wp2_with fail
                  exact HNX.out _ (HCL.out.none (by have := HAK.out; rw [Nat.add_sub_cancel] at this; rw [← this]; exact HR.out)) (H7.out.setJ (by omega) (by omega) d)
                | some s =>
                  obtain ⟨q1, q2, q3⟩ := ClearB.found (d := d) HCL.out (by have := HD0.out; have := HKN.out; omega) HM.out (by have := HAK.out; rw [Nat.add_sub_cancel] at this; rw [← this]; exact HR.out)
                  have hs := (lst_some.1 HR.out).1
                  unfold neg1 at CF
                  have hs0 : decide ((0 : Int) ≤ s) = true := decide_eq_true (by omega)
                  by_cases hov : be ≤ d * 86400 + s
                  · have HRR := HF.out _ q2 hov q1 q3
                    have ho : decide (d * 86400 + s < be) = false := decide_eq_false (by omega)
                    have ho' : decide ((d : Int) * 86400 + s < be) = false := decide_eq_false (by omega)
                    clear q1 q2 q3 CO HNX
                    subst HRR
                    go_wp2_with fail
                    refine (CM.out).mono ?_
                    rintro e w5 ⟨rfl, hb⟩
                    clear c0 c1 c2 c3 c4 c5 c6 c7 d0' d1 d2 d3 d4
                    obtain ⟨c0, c1, c2, c3, c4, c5, c6, c7⟩ := hb.cells
                    have H5 := Lib.hid hb
                    clear hb CM
                    go_wp2_with fail
                    refine (CF.out _ H5.out).mono ?_
                    rintro e w6 ⟨rfl, hb⟩
                    clear c0 c1 c2 c3 c4 c5 c6 c7
                    obtain ⟨d0', d1, d2, d3, d4⟩ := hb.dcells
                    have H6 := Lib.hid hb
                    clear hb H5 CF
                    go_wp2_with fail
                    go_ret3
                    exact ⟨ret_ibe (by unfold optI; simp) rfl (by first | rfl | exact HCZ.out.symm), H6.out.below⟩
                  · have HRR := HN.out (fun l h1 h2 => q3 l (by omega) h2)
                    have ho : decide (d * 86400 + s < be) = true := decide_eq_true (by omega)
                    have ho' : decide ((d : Int) * 86400 + s < be) = true := decide_eq_true (by omega)
                    clear q1 q2 q3 CO HNX
                    subst HRR
                    go_wp2_with fail
                    refine (CM.out).mono ?_
                    rintro e w5 ⟨rfl, hb⟩
                    clear c0 c1 c2 c3 c4 c5 c6 c7 d0' d1 d2 d3 d4
                    obtain ⟨c0, c1, c2, c3, c4, c5, c6, c7⟩ := hb.cells
                    have H5 := Lib.hid hb
                    clear hb CM
                    go_wp2_with fail
                    refine (CF.out _ H5.out).mono ?_
                    rintro e w6 ⟨rfl, hb⟩
                    clear c0 c1 c2 c3 c4 c5 c6 c7
                    obtain ⟨d0', d1, d2, d3, d4⟩ := hb.dcells
                    have H6 := Lib.hid hb
                    clear hb H5 CF
                    go_wp2_with fail
                    go_ret3
                    exact ⟨ret_ibe rfl rfl (by first | rfl | exact HCZ.out.symm), H6.out.below⟩
            · have HRR := HN.out (fun l h1 h2 => HCL.out l h2 (by omega))
              have he : decide (be ≤ d * 86400 + 86399) = false := decide_eq_false hend
              have he' : decide ((be : Int) ≤ (d : Int) * 86400 + 86399) = false := decide_eq_false (by omega)
              subst HRR
              clear hdd0 hend
              go_wp2_with fail
              go_ret3
              exact ⟨ret_ibe rfl rfl (by first | rfl | exact HCZ.out.symm), HD.out.below⟩
          · have HRR := HN.out (fun l _ _ => clj_all HO.out HCL.out (by have := HD0.out; have := HKN.out; omega) l)
            have hl : decide (n ≤ 2924) = false := decide_eq_false (by omega)
            have hl' : decide ((n : Int) ≤ 2924) = false := decide_eq_false (by omega)
            subst HRR
            clear hdd0
            go_wp2_with fail
            go_ret3
            exact ⟨ret_ibe rfl rfl (by first | rfl | exact HCZ.out.symm), HD.out.below⟩
  · have HR := HBAD.out hcz
    obtain ⟨c, hc⟩ : ∃ c, c = chk x z [t] := ⟨_, rfl⟩
    have HC := Lib.hid hc
    have hc2 := hc.symm
    have hcz2 : (c == 0) = false := by rw [beq_eq_false_iff_ne, hc]; exact hcz
    clear hc hcz HOK HBAD
    subst HR
    go_wp2_with fail
    go_ret3
    exact ⟨ret_ibe rfl rfl HC.out, HB2.out⟩
end Go.Proofs.YtepoegcpfhjlpaaDoor.BW
