/- Contract of the reference's from. -/
import Derived.Test.YtmdjfjdlehdhjaaGreatDoorREver
import Derived.Test.YtmdjfjdlehdhjaaGreatDoorMatS
namespace Go.Proofs.YtmdjfjdlehdhjaaGreatDoor.BW
open Go.RowKit BM Go.Shelf MC
open BK hiding ret_bool ret_i64

def negI : Option Int → Int
  | some t => t
  | none => -1
theorem DayI.first {w : World} {x : Ex} {b d n : Nat} {W : World} (hx : U64s x) {a : Nat} (ha : a < 86400) (h : DayI w x b d n W) : Calls Tryz.prog 178 #[.agg #[.int .u64 x.s, .int .u64 x.mi, .int .u64 x.h, .int .u64 x.d, .int .u64 x.mo, .int .u64 x.w, .bool x.ad, .bool x.aw], .int .i64 a] W fun e W' =>
    e = .returned (.int .i64 (neg1 (fst x a))) ∧ DayI w x b d n W' := (rfirst_ok x hx a ha W).mono fun _ _ ⟨h1, h2⟩ => ⟨h1, h.next h2⟩
theorem from_found {x : Ex} {z t : Int} {l : Nat} (hz : -840 ≤ z ∧ z ≤ 840) (ht : 0 ≤ t) (h1 : t + z * 60 ≤ l) (h2 : (l : Int) ≤ 253402300799 ∧ (l : Int) ≤ 253402300799 + z * 60) (h3 : T x l = true) (h4 : ∀ m : Nat, t + z * 60 ≤ m → m < l → T x m = false) : fromV x z t = some (l - z * 60) := by
  refine (fromV_some hz).2 ⟨by omega, ?_, fun m m1 m2 => ?_⟩
  · unfold At
    rw [show ((l : Int) - z * 60 + z * 60).toNat = l from by omega, h3, decide_eq_true (by omega)]; rfl
  · cases hA : At x z m
    · rfl
    · have hr := At_range hA
      have := h4 (m + z * 60).toNat (by omega) (by omega)
      rw [At_T hA] at this; cases this
theorem from_none {x : Ex} {z t : Int} (hz : -840 ≤ z ∧ z ≤ 840) (h : ∀ m : Nat, t + z * 60 ≤ m → (m : Int) ≤ 253402300799 → (m : Int) ≤ 253402300799 + z * 60 → T x m = false) : fromV x z t = none := by
  refine (fromV_none hz).2 fun m hm => ?_
  cases hA : At x z m
  · rfl
  · have hr := At_range hA
    have := h (m + z * 60).toNat (by omega) (by omega) (by omega)
    rw [At_T hA] at this; cases this
theorem clear_all {x : Ex} {lo d : Nat} (hok : x.Ok) (h : Clear x lo d) (hd : lo / 86400 + 2925 ≤ d) (l : Nat) (hl : lo ≤ l) : T x l = false := by
  rcases Nat.lt_or_ge l (d * 86400) with h1 | h1
  · exact h l hl h1
  · refine T_never (fun m => M_never (k := lo / 86400 + 1) (fun n n1 n2 => ?_) m) l
    cases hm : MC.M x n
    · rfl
    · obtain ⟨s, s1, s2⟩ := hok.some_second
      have := h (n * 86400 + s) (by omega) (by omega)
      rw [T_at x n s s1, hm, s2] at this; cases this

set_option maxRecDepth 8000 in
set_option maxHeartbeats 4000000 in
theorem rfrom_ok (x : Ex) (hx : U64s x) (hok : x.Ok) (z t : Int) (hz : -840 ≤ z ∧ z ≤ 840) (ht : 0 ≤ t ∧ t ≤ 253402300800) (w : World) : Calls Tryz.prog 159 #[.agg (exV x), .int .i64 z, .int .i64 t] w fun e w' =>
    e = .returned (.int .i64 (negI (fromV x z t))) ∧ Below w.heap.size w w' := by
  obtain ⟨hi, ehi⟩ : ∃ n : Nat, min (253402300799 : Int) (253402300799 + z * 60) = n := ⟨(min (253402300799 : Int) (253402300799 + z * 60)).toNat, by omega⟩
  obtain ⟨lo, elo⟩ : ∃ n : Nat, max (t + z * 60) 0 = n := ⟨(max (t + z * 60) 0).toNat, by omega⟩
  have hF : ∀ l : Nat, lo ≤ l → l ≤ hi → T x l = true → (∀ m, lo ≤ m → m < l → T x m = false) → fromV x z t = some (l - z * 60) := fun l h1 h2 h3 h4 =>
    from_found hz ht.1 (by omega) (by omega) h3 fun m m1 m2 => h4 m (by omega) m2
  have hN : (∀ l, lo ≤ l → l ≤ hi → T x l = false) → fromV x z t = none := fun h => from_none hz fun m m1 m2 m3 => h m (by omega) (by omega)
  have HF := Lib.hid hF
  have HN := Lib.hid hN
  generalize fromV x z t = R at *
  have HX := Lib.hid hx
  have HO := Lib.hid hok
  have HB0 := Lib.hid (show Below w.heap.size w (w.alloc (.cells (exV x) 24)) from (Below.refl _ w).alloc (Nat.le_refl _) _)
  have HBX := Lib.hid (Blk.new w 24 (exV x))
  have e0 : exV x = #[.int .u64 x.s, .int .u64 x.mi, .int .u64 x.h, .int .u64 x.d, .int .u64 x.mo, .int .u64 x.w, .bool x.ad, .bool x.aw] := rfl
  rw [e0]
  clear e0 hx hok hF hN
  by_cases hlh : lo ≤ hi
  · have hgt : decide (hi < lo) = false := decide_eq_false (by omega)
    have hh1 : hi ≤ 253402300799 := by omega
    obtain ⟨d0, hd0⟩ : ∃ n : Nat, n = lo / 86400 := ⟨_, rfl⟩
    have en : (lo : Int) / 86400 = (d0 : Int) := by omega
    obtain ⟨a0, ha0⟩ : ∃ n : Nat, n = lo % 86400 := ⟨_, rfl⟩
    have ea : (lo : Int) % 86400 = (a0 : Int) := by omega
    have hd2 : d0 ≤ 2932896 := by omega
    have HA0 := Lib.hid (show a0 = lo - d0 * 86400 by omega)
    have HD0 := Lib.hid hd0
    clear hd0 ha0 hlh
    go_enter Tryz.func159, Tryz.ntmps159
    go_wp2_with fail
    refine (rdt_ok d0 hd2 _).mono ?_
    rintro e w3 ⟨rfl, hb⟩
    have HB3 := Lib.hid (HB0.out.trans (Below.mono (w := w.alloc (.cells (exV x) 24)) hb (HB0.out.size)))
    have HX3 := Lib.hid (Blk.below HBX.out hb HBX.out.lt)
    clear hb HB0 HBX
    have H4 : Hid (DayI w x w.heap.size w3.heap.size d0 (w3.alloc (.cells (dtV d0) 186))) := Lib.hid ⟨HX3.out.alloc _, Blk.new _ _ _, HB3.out.alloc HB3.out.size _⟩
    have hlt : w.heap.size < w3.heap.size := HX3.out.lt
    clear HB3 HX3
    unfold dtV
    unfold dtV at H4
    go_wp2_with fail
    go_loopw [11, 12] (fun s11 s12 wr => ∃ n d a : Nat, n ≤ 2925 ∧ d = d0 + n ∧ a = lo - d * 86400 ∧ s11 = .int .i64 a ∧ s12 = .int .i64 n ∧ DayI w x w.heap.size w3.heap.size d wr ∧ Clear x lo d ∧ a < 86400) (fun _ s12 _ => 2925 - intM s12)
    case atStart => exact ⟨0, d0, a0, by omega, rfl, HA0.out, by first | rfl | rw [ea], rfl, H4.out, by rw [HD0.out]; exact Clear.start x lo, by have := HA0.out; have := HD0.out; omega⟩
    case round =>
      clear H4 HA0 en ea
      obtain ⟨n, d, a, hn, hdn, han, rfl, rfl, hD, hcl, ha⟩ := hrel
      have HD := Lib.hid hD
      have HCL := Lib.hid hcl
      have HDN := Lib.hid (And.intro hdn han)
      clear hD hcl han
      obtain ⟨c0, c1, c2, c3, c4, c5, c6, c7⟩ := HD.out.cells
      obtain ⟨d0', d1, d2, d3, d4⟩ := HD.out.dcells
      rcases Nat.lt_or_ge n 2925 with hlt2 | hge
      · have hl : decide (n ≤ 2924) = true := decide_eq_true (by omega)
        have hl' : decide ((n : Int) ≤ 2924) = true := decide_eq_true (by omega)
        by_cases hend : d * 86400 ≤ hi
        · have hd9 : d ≤ 2932896 := by omega
          have hd8 : 0 ≤ (d : Int) * 86400 ∧ (d : Int) * 86400 ≤ 253402300799 := by omega
          have he : decide (d * 86400 ≤ hi) = true := decide_eq_true hend
          have he' : decide ((d : Int) * 86400 ≤ hi) = true := decide_eq_true (by omega)
          have CM := Lib.hid (HD.out.matches HX.out)
          have CO := Lib.hid (fun W (h : DayI w x w.heap.size w3.heap.size d W) => h.on hd9)
          have CF := Lib.hid (fun W (h : DayI w x w.heap.size w3.heap.size d W) => h.first HX.out ha)
          have HNX : Hid (∀ W y, Clear x lo (d + 1) → DayI w x w.heap.size w3.heap.size (d + 1) W → y = 0 → (∃ n_1 d a : Nat, n_1 ≤ 2925 ∧ d = d0 + n_1 ∧ a = lo - d * 86400 ∧ Value.int .i64 y = .int .i64 a ∧ Value.int .i64 (n + 1) = .int .i64 n_1 ∧ DayI w x w.heap.size w3.heap.size d W ∧ Clear x lo d ∧ a < 86400) ∧ 2925 - intM (.int .i64 (n + 1)) < 2925 - intM (.int .i64 n)) := Lib.hid (by
            rintro W y h1 h2 rfl
            refine ⟨⟨n + 1, d + 1, 0, by omega, by omega, ?_, rfl, by go_num, h2, h1, by omega⟩, by simp [intM]; omega⟩
            have := HD0.out
            omega)
          obtain ⟨b, hb⟩ : ∃ b, MC.M x d = b := ⟨_, rfl⟩
          rw [hb] at CM
          have HM := Lib.hid hb
          clear hb hend hlt2 hdn
          cases b
          · go_wp2_with fail
            refine (CM.out).mono ?_
            rintro e w5 ⟨rfl, hb⟩
            clear c0 c1 c2 c3 c4 c5 c6 c7 d0' d1 d2 d3 d4 CF
            obtain ⟨d0', d1, d2, d3, d4⟩ := hb.dcells
            have H5 := Lib.hid hb
            clear hb CM
            go_wp2_with fail
            refine (CO.out _ H5.out).mono ?_
            rintro e w6 ⟨rfl, hb⟩
            clear d0' d1 d2 d3 d4
            obtain ⟨d0', d1, d2, d3, d4⟩ := hb.dcells
            obtain ⟨f0, f1, f2, f3, f4⟩ := hb.frozen
            have H6 := Lib.hid hb
            clear hb H5
            go_wp2_with fail
            exact HNX.out _ _ (HCL.out.skip HM.out) (H6.out.set (by omega) (by omega) (d + 1) (by omega) (by omega)) rfl
          · obtain ⟨r, hr⟩ : ∃ r, fst x a = r := ⟨_, rfl⟩
            rw [hr] at CF
            have HR := Lib.hid hr
            clear hr
            cases r with
            | none =>
              unfold neg1 at CF
              go_wp2_with fail
              refine (CM.out).mono ?_
              rintro e w5 ⟨rfl, hb⟩
              clear c0 c1 c2 c3 c4 c5 c6 c7 d0' d1 d2 d3 d4
              obtain ⟨c0, c1, c2, c3, c4, c5, c6, c7⟩ := hb.cells
              have H5 := Lib.hid hb
              clear hb CM
              go_wp2_with fail
              refine (CF.out _ H5.out).mono ?_
              rintro e w6 ⟨rfl, hb⟩
              clear c0 c1 c2 c3 c4 c5 c6 c7
              obtain ⟨d0', d1, d2, d3, d4⟩ := hb.dcells
              have H6 := Lib.hid hb
              clear hb H5 CF
              go_wp2_with fail
              refine (CO.out _ H6.out).mono ?_
              rintro e w7 ⟨rfl, hb⟩
              clear d0' d1 d2 d3 d4
              obtain ⟨d0', d1, d2, d3, d4⟩ := hb.dcells
              obtain ⟨f0, f1, f2, f3, f4⟩ := hb.frozen
              have H7 := Lib.hid hb
              clear hb H6
              go_wp2_with fail
              exact HNX.out _ _ (HCL.out.none (by rw [← HDN.out.2]; exact HR.out)) (H7.out.set (by omega) (by omega) (d + 1) (by omega) (by omega)) rfl
            | some s =>
              obtain ⟨q1, q2, q3⟩ := HCL.out.found HM.out (by rw [← HDN.out.2]; exact HR.out)
              have hs := (fst_some.1 HR.out).1
              unfold neg1 at CF
              have hs0 : decide ((0 : Int) ≤ s) = true := decide_eq_true (by omega)
              by_cases hov : d * 86400 + s ≤ hi
              · have HRR := HF.out _ q2 hov q1 q3
                have ho : decide (hi < d * 86400 + s) = false := decide_eq_false (by omega)
                have ho' : decide ((hi : Int) < d * 86400 + s) = false := decide_eq_false (by omega)
                clear q1 q2 q3 CO HNX
                subst HRR
                go_wp2_with fail
                refine (CM.out).mono ?_
                rintro e w5 ⟨rfl, hb⟩
                clear c0 c1 c2 c3 c4 c5 c6 c7 d0' d1 d2 d3 d4
                obtain ⟨c0, c1, c2, c3, c4, c5, c6, c7⟩ := hb.cells
                have H5 := Lib.hid hb
                clear hb CM
                go_wp2_with fail
                refine (CF.out _ H5.out).mono ?_
                rintro e w6 ⟨rfl, hb⟩
                clear c0 c1 c2 c3 c4 c5 c6 c7
                obtain ⟨d0', d1, d2, d3, d4⟩ := hb.dcells
                have H6 := Lib.hid hb
                clear hb H5 CF
                go_wp2_with fail
                go_ret
                exact ⟨by unfold negI; congr 2, H6.out.below⟩
              · have HRR := HN.out (fun l h1 h2 => q3 l h1 (by omega))
                have ho : decide (hi < d * 86400 + s) = true := decide_eq_true (by omega)
                have ho' : decide ((hi : Int) < d * 86400 + s) = true := decide_eq_true (by omega)
                clear q1 q2 q3 CO HNX
                subst HRR
                go_wp2_with fail
                refine (CM.out).mono ?_
                rintro e w5 ⟨rfl, hb⟩
                clear c0 c1 c2 c3 c4 c5 c6 c7 d0' d1 d2 d3 d4
                obtain ⟨c0, c1, c2, c3, c4, c5, c6, c7⟩ := hb.cells
                have H5 := Lib.hid hb
                clear hb CM
                go_wp2_with fail
                refine (CF.out _ H5.out).mono ?_
                rintro e w6 ⟨rfl, hb⟩
                clear c0 c1 c2 c3 c4 c5 c6 c7
                obtain ⟨d0', d1, d2, d3, d4⟩ := hb.dcells
                have H6 := Lib.hid hb
                clear hb H5 CF
                go_wp2_with fail
                go_ret
                exact ⟨rfl, H6.out.below⟩
        · have HRR := HN.out (fun l h1 h2 => HCL.out l h1 (by omega))
          have he : decide (d * 86400 ≤ hi) = false := decide_eq_false hend
          have he' : decide ((d : Int) * 86400 ≤ hi) = false := decide_eq_false (by omega)
          subst HRR
          have hd8 : 0 ≤ (d : Int) * 86400 ∧ (d : Int) * 86400 ≤ 253402300799 + 253402300799 := by omega
          clear hdn
          go_wp2_with fail
          go_ret
          exact ⟨rfl, HD.out.below⟩
      · have HRR := HN.out (fun l h1 _ => clear_all HO.out HCL.out (by have := HD0.out; omega) l h1)
        have hl : decide (n ≤ 2924) = false := decide_eq_false (by omega)
        have hl' : decide ((n : Int) ≤ 2924) = false := decide_eq_false (by omega)
        subst HRR
        go_wp2_with fail
        go_ret
        exact ⟨rfl, HD.out.below⟩
  · have hgt : decide (hi < lo) = true := decide_eq_true (by omega)
    have HR := HN.out fun l h1 h2 => by omega
    clear hlh
    go_enter Tryz.func159, Tryz.ntmps159
    go_wp2_with fail
    go_ret
    exact ⟨by rw [HR]; rfl, HB0.out⟩
end Go.Proofs.YtmdjfjdlehdhjaaGreatDoor.BW
