/- The chapter's examples, plainly. Contracts of star, Same and works. Contract of works: the chapter's examples hold. Contracts of match.Day and match.Is. Contract of match.Is; star; Same. An expression in a box of the caller's, through calls of match.Day, match.Is and works. -/
import Derived.Test.YtmdjfjdlehdhjaaGreatDoorMNext
import Derived.Test.YtmdjfjdlehdhjaaGreatDoorMList
import Derived.Test.YtmdjfjdlehdhjaaGreatDoorMCount
import Derived.Test.YtmdjfjdlehdhjaaGreatDoorMatV
import Derived.Test.YtmdjfjdlehdhjaaGreatDoorMChk
namespace Go.Proofs.YtmdjfjdlehdhjaaGreatDoor.BW
open MC

def starX : Ex := ⟨1, 1152921504606846975, 16777215, 4294967294, 8190, 127, true, true⟩
def workX : Ex := ⟨1, 35185445863425, 261632, 4294967294, 8190, 62, true, false⟩
def friX : Ex := ⟨1, 1, 1, 8192, 8190, 32, false, false⟩
theorem u64_star : U64s starX := ⟨by decide, by decide, by decide, by decide, by decide, by decide⟩
theorem u64_work : U64s workX := ⟨by decide, by decide, by decide, by decide, by decide, by decide⟩
theorem u64_fri : U64s friX := ⟨by decide, by decide, by decide, by decide, by decide, by decide⟩
theorem chk_star : chk starX 0 [0, 86399] = 0 := by decide +kernel
theorem chk_work : chk workX 0 [150300] = 0 := by decide +kernel
theorem chk_fri : chk friX 0 [0, 1100000] = 0 := by decide +kernel
theorem month_any (n : Nat) : Nat.testBit 8190 (ymd n).2.1 = true := by
  obtain ⟨⟨h1, h2, h3, h4, h5⟩, _⟩ := ymd_spec n
  generalize (ymd n).2.1 = m at *
  obtain rfl | rfl | rfl | rfl | rfl | rfl | rfl | rfl | rfl | rfl | rfl | rfl : m = 1 ∨ m = 2 ∨ m = 3 ∨ m = 4 ∨ m = 5 ∨ m = 6 ∨ m = 7 ∨ m = 8 ∨ m = 9 ∨ m = 10 ∨ m = 11 ∨ m = 12 := by omega
  all_goals rfl
theorem ymd_jan (n : Nat) (h : n ≤ 30) : ymd n = (1970, 1, n + 1) := by
  have e : dn 1970 1 (n + 1) = n := by unfold dn; rw [cum_one, show before 1970 = 0 from by decide +kernel]; omega
  have hv : Valid 1970 1 (n + 1) := ⟨by decide, by decide, by decide, by omega, by have : mlen 1970 1 = 31 := by decide +kernel
                                                                                   omega⟩
  have := ymd_dn hv
  rwa [e] at this
theorem bit_hi {s n i : Nat} (hs : s < 2 ^ n) (h : n ≤ i) : s.testBit i = false := Nat.testBit_lt_two_pow (Nat.lt_of_lt_of_le hs (Nat.pow_le_pow_right (by decide) h))
/-! ### Next -/
theorem M_work (n : Nat) : MC.M workX n = Nat.testBit 62 ((n + 4) % 7) := by
  unfold MC.M dayRule
  show (Nat.testBit 8190 (ymd n).2.1 && _) = _
  rw [month_any]; rfl
theorem clk_work_late : ∀ s, 63901 ≤ s → s < 86400 → clk workX s = false := fun s h1 h2 => by
  rcases Nat.lt_or_ge (s / 3600) 18 with h | h
  · rcases Nat.lt_or_ge (s / 60 % 60) 46 with h3 | h3
    · exact clk_sec_no (bit_hi (s := 1) (n := 1) (by decide) (by omega))
    · exact clk_min_no (bit_hi (s := 35185445863425) (n := 46) (by decide) h3)
  · exact clk_hour_no (bit_hi (s := 261632) (n := 18) (by decide) h)
theorem clk_work_early : ∀ s, s < 32400 → clk workX s = false := fun s h2 => by
  have h : ∀ i, i < 9 → Nat.testBit 261632 i = false := by decide
  exact clk_hour_no (h _ (by omega))
theorem work_gap : ∀ l, 150301 ≤ l → l < 378000 → T workX l = false := fun l h1 h2 => by
  unfold T
  obtain h | h | h : l / 86400 = 1 ∨ (l / 86400 = 2 ∨ l / 86400 = 3) ∨ l / 86400 = 4 := by omega
  · rw [clk_work_late (l % 86400) (by omega) (by omega), Bool.and_false]
  · rw [M_work]
    rcases h with h | h <;> rw [h] <;> rfl
  · rw [clk_work_early (l % 86400) (by omega), Bool.and_false]
theorem work_hit : T workX 378000 = true := by
  unfold T
  rw [M_work]
  rfl
theorem next_work : nxV workX 0 150300 = some 378000 := by
  unfold nxV
  rw [if_pos chk_work]
  unfold timesL
  rw [if_neg (by decide), show (loI 0 (150300 + 1)).toNat = 150301 from by decide, show (hiI 0 253402300799).toNat = 253402300799 from by decide, rest_skip' (d := 378000) (by decide) work_gap, rest_cons (by decide) work_hit]
  rfl
/-! ### List -/
theorem M_fri (n : Nat) (h : n ≤ 12) : MC.M friX n = (Nat.testBit 8192 (n + 1) || Nat.testBit 32 ((n + 4) % 7)) := by
  unfold MC.M dayRule
  rw [ymd_jan n (by omega)]
  show (Nat.testBit 8190 1 && (Nat.testBit 8192 (n + 1) || Nat.testBit 32 ((n + 4) % 7))) = _
  rw [show Nat.testBit 8190 1 = true from rfl, Bool.true_and]
theorem clk_fri_late : ∀ s, 1 ≤ s → s < 86400 → clk friX s = false := fun s h1 h2 => by
  rcases Nat.lt_or_ge (s / 3600) 1 with h | h
  · rcases Nat.lt_or_ge (s / 60 % 60) 1 with h3 | h3
    · exact clk_sec_no (bit_hi (s := 1) (n := 1) (by decide) (by omega))
    · exact clk_min_no (bit_hi (s := 1) (n := 1) (by decide) h3)
  · exact clk_hour_no (bit_hi (s := 1) (n := 1) (by decide) h)
theorem rest_no (d hi : Nat) (h : MC.M friX d = false) : rest friX (d * 86400) hi = rest friX ((d + 1) * 86400) hi := rest_skip' (by omega) fun l h1 h2 => by
  unfold T
  rw [show l / 86400 = d from by omega, h]; rfl
theorem rest_yes (d hi : Nat) (h : MC.M friX d = true) (hd : d * 86400 ≤ hi) : rest friX (d * 86400) hi = d * 86400 :: rest friX ((d + 1) * 86400) hi := by
  have hT : T friX (d * 86400) = true := by
    have := T_at friX d 0 (by decide)
    rw [Nat.add_zero] at this
    rw [this, h]
    decide +kernel
  have e : ∀ c, c = d * 86400 + 1 → rest friX c hi = rest friX ((d + 1) * 86400) hi := fun c hc => rest_skip' (by omega) (fun l h1 h2 => by
    unfold T
    rw [clk_fri_late (l % 86400) (by omega) (by omega), Bool.and_false])
  rw [rest_cons hd hT, e _ rfl]
theorem rest_fri : rest friX 0 1100000 = [86400, 691200, 1036800] := by
  have n0 : MC.M friX 0 = false := by rw [M_fri _ (by decide)]; rfl
  have n1 : MC.M friX 1 = true := by rw [M_fri _ (by decide)]; rfl
  have n2 : MC.M friX 2 = false := by rw [M_fri _ (by decide)]; rfl
  have n3 : MC.M friX 3 = false := by rw [M_fri _ (by decide)]; rfl
  have n4 : MC.M friX 4 = false := by rw [M_fri _ (by decide)]; rfl
  have n5 : MC.M friX 5 = false := by rw [M_fri _ (by decide)]; rfl
  have n6 : MC.M friX 6 = false := by rw [M_fri _ (by decide)]; rfl
  have n7 : MC.M friX 7 = false := by rw [M_fri _ (by decide)]; rfl
  have n8 : MC.M friX 8 = true := by rw [M_fri _ (by decide)]; rfl
  have n9 : MC.M friX 9 = false := by rw [M_fri _ (by decide)]; rfl
  have n10 : MC.M friX 10 = false := by rw [M_fri _ (by decide)]; rfl
  have n11 : MC.M friX 11 = false := by rw [M_fri _ (by decide)]; rfl
  have n12 : MC.M friX 12 = true := by rw [M_fri _ (by decide)]; rfl
  have r0 := rest_no 0 1100000 n0
  rw [Nat.zero_mul] at r0
  rw [r0, rest_yes 1 _ n1 (by decide), rest_no 2 _ n2, rest_no 3 _ n3, rest_no 4 _ n4, rest_no 5 _ n5, rest_no 6 _ n6, rest_no 7 _ n7, rest_yes 8 _ n8 (by decide), rest_no 9 _ n9, rest_no 10 _ n10, rest_no 11 _ n11, rest_yes 12 _ n12 (by decide), rest_over (by decide)]
theorem list_fri : lsV friX 0 0 1100000 9 = [86400, 691200, 1036800] := by
  unfold lsV
  rw [if_pos ⟨chk_fri, by decide⟩]
  unfold timesL
  rw [if_neg (by decide), show (loI 0 0).toNat = 0 from by decide, show (hiI 0 1100000).toNat = 1100000 from by decide, rest_fri]
  rfl
/-! ### Count -/
theorem count_star : ctR starX 0 0 86399 = 1440 := by
  unfold ctR
  rw [if_pos ⟨chk_star, by decide⟩, show (loI 0 0).toNat = 0 from by decide, show (hiI 0 86399).toNat = 86399 from by decide]
  unfold ctV
  have hm : MC.M starX 0 = true := by unfold MC.M dayRule; rw [ymd_jan 0 (by decide)]; rfl
  have h := cnt_T_day starX 0 86400 (by decide)
  rw [hm, clk_count] at h
  rw [Nat.zero_mul, Nat.zero_add] at h
  rw [show 86399 + 1 = 86400 from by decide, h]
  have e1 : cnt starX.h.testBit (86400 / 3600) = 24 := by decide +kernel
  have e2 : cnt starX.mi.testBit 60 = 60 := by decide +kernel
  have e3 : cnt starX.s.testBit 60 = 1 := by decide +kernel
  have e4 : starX.h.testBit (86400 / 3600) = false := by decide +kernel
  rw [e1, e2, e3, e4]
  simp [cnt]
end Go.Proofs.YtmdjfjdlehdhjaaGreatDoor.BW
namespace Go.Proofs.YtmdjfjdlehdhjaaGreatDoor.BW
open Go.RowKit BM Go.Shelf MC
open BK hiding ret_bool ret_i64

def starV : Array Value := #[.int .u64 1, .int .u64 1152921504606846975, .int .u64 16777215, .int .u64 4294967294, .int .u64 8190, .int .u64 127, .bool true, .bool true]
theorem IntsAt.below {w w' : World} {a : Option Addr} {xs : List Int} (h : IntsAt w a xs) (hb : Below w.heap.size w w') : IntsAt w' a xs := fun k hk => by
  obtain ⟨b, off, e, hc⟩ := h k hk
  exact ⟨b, off, e, (hb.cell (p := ⟨b, off + k, none⟩) (World.block_lt_of_cell? w _ hc)).trans hc⟩
theorem OwnsT.shape {B : Nat} {v : Value} {ys : List Int} {w : World} (h : OwnsT B v ys w) : ∃ a cap, v = .slice a ys.length cap ∧ IntsAt w a ys := by
  obtain ⟨hl, h⟩ := h
  rcases h with ⟨rfl, h0⟩ | ⟨g, cap, cur, rfl, hb, hg, hn, hc, hs, ht⟩
  · have : ys = [] := List.eq_nil_of_length_eq_zero h0
    subst this
    exact ⟨none, 0, rfl, fun k hk => by simp at hk⟩
  · refine ⟨_, cap, rfl, fun k hk => ⟨g, 0, rfl, ?_⟩⟩
    have h1 : (ys.map tcell)[k]? = some (tcell ys[k]) := by simp [hk]
    rw [← ht, List.getElem?_take] at h1
    simp only [Nat.mul_one, hk, if_true] at h1
    have h2 : cur[k]? = some (tcell ys[k]) := by simpa using h1
    simp only [World.cell?, hg, Nat.zero_add, Option.isSome_none, Bool.false_eq_true, if_false, h2]
    rfl
set_option maxRecDepth 8000 in
set_option maxHeartbeats 2000000 in
theorem same_ok (a b : Option Addr) (ys : List Int) (n c d : Nat) (hn : ys.length = n) (hn9 : n ≤ 200000) (w : World) (ha : IntsAt w a ys) (hb : IntsAt w b ys) :
    Calls Tryz.prog 46 #[.slice a n c, .slice b n d] w fun e w' => e = .returned (.bool true) ∧ Below w.heap.size w w' := by
  have HA := Lib.hid ha
  have HB := Lib.hid hb
  have HN := Lib.hid hn
  clear ha hb hn
  go_enter Tryz.func46, Tryz.ntmps46
  go_wp2_with fail
  go_loopw [5] (fun s5 wr => ∃ k : Nat, k ≤ n ∧ s5 = .int .i64 k ∧ Below w.heap.size w wr) (fun s5 _ => n - intM s5)
  case atStart => exact ⟨0, by omega, rfl, Below.refl _ _⟩
  case round =>
    obtain ⟨k, hk, rfl, hbl⟩ := hrel
    rcases Nat.lt_or_ge k n with hlt | hge
    · obtain ⟨b1, o1, rfl, h1⟩ := (HA.out) k (by have := HN.out; omega)
      obtain ⟨b2, o2, rfl, h2⟩ := (HB.out) k (by have := HN.out; omega)
      have k1 := cell_regrown ((hbl.cell (p := ⟨b1, o1 + k, none⟩) (World.block_lt_of_cell? w _ h1)).trans h1)
      have k2 := cell_regrown ((hbl.cell (p := ⟨b2, o2 + k, none⟩) (World.block_lt_of_cell? w _ h2)).trans h2)
      clear h1 h2
      generalize ys[k]'(by have := HN.out; omega) = v at *
      have hq : (v != v) = false := by simp
      have hw : IntKind.i64.wrap ((k : Int) + 1) = (k : Int) + 1 := IntWalk.i64_in _ (by omega)
      go_wp2_with fail
      refine wp_region_quiet_below (by kernel_rfl) (by kernel_rfl) ?_
      repeat (go_big_quiet_step (fail))
      refine wpQuiet_nil ?_
      intro _ hw'
      obtain ⟨⟨dq, osq⟩, hw''⟩ := hw'
      subst hw''
      go_wp2_with fail
      refine ⟨⟨k + 1, by omega, by go_num, hbl.trans ((below_regrown wr dq osq).mono hbl.size)⟩, ?_⟩
      simp [intM]; omega
    · obtain rfl : k = n := by omega
      go_wp2_with fail
      go_ret
      exact ⟨rfl, hbl⟩
end Go.Proofs.YtmdjfjdlehdhjaaGreatDoor.BW
namespace Go.Proofs.YtmdjfjdlehdhjaaGreatDoor.BW
open Go.RowKit BM Go.Shelf MC
open BK hiding ret_bool ret_i64

def workV : Array Value := #[.int .u64 1, .int .u64 35185445863425, .int .u64 261632, .int .u64 4294967294, .int .u64 8190, .int .u64 62, .bool true, .bool false]
def friV : Array Value := #[.int .u64 1, .int .u64 1, .int .u64 1, .int .u64 8192, .int .u64 8190, .int .u64 32, .bool false, .bool false]
theorem cnext (w : World) (hT : SpTab w) (hTab : Tab w) : Calls Tryz.prog 110 #[.agg workV, .int .i64 0, .int .i64 150300] w fun e w' => e = .returned (.tuple #[.int .i64 378000, .bool true, .int .i64 0]) ∧ Below w.heap.size w w' := by
  have h := pnext_ok workX u64_work 0 150300 w hT hTab
  rw [next_work, chk_work] at h
  exact h
theorem ccount (w : World) (hT : SpTab w) : Calls Tryz.prog 112 #[.agg starV, .int .i64 0, .int .i64 0, .int .i64 86399] w fun e w' => e = .returned (.tuple #[.int .i64 1440, .int .i64 0]) ∧ Below w.heap.size w w' := by
  have h := pcount_ok starX u64_star 0 0 86399 w hT
  rw [count_star, chk_star] at h
  exact h
end Go.Proofs.YtmdjfjdlehdhjaaGreatDoor.BW
namespace Go.Proofs.YtmdjfjdlehdhjaaGreatDoor.BW
open Go.RowKit BM Go.Shelf MC
open BK hiding ret_bool ret_i64

/-- Whether the local day of a time is matched. -/
noncomputable def dayV (x : Ex) (z t : Int) : Bool := decide (chk x z [t] = 0) && (decide (0 ≤ t + z * 60) && decide (t + z * 60 ≤ 253402300799) && MC.M x ((t + z * 60).toNat / 86400))
noncomputable def isV (x : Ex) (z t : Int) : Bool := decide (chk x z [t] = 0) && (decide (0 ≤ t + z * 60) && decide (t + z * 60 ≤ 253402300799) && T x (t + z * 60).toNat)
theorem ret_be {a b : Bool} {c d : Int} (h : a = b) (h' : c = d) : Ending.returned (.tuple #[.bool a, .int .i64 c]) = .returned (.tuple #[.bool b, .int .i64 d]) := by rw [h, h']
set_option maxRecDepth 8000 in
set_option maxHeartbeats 4000000 in
theorem pday_ok (x : Ex) (hx : U64s x) (z t : Int) (w : World) (hT : SpTab w) : Calls Tryz.prog 142 #[.agg (exV x), .int .i64 z, .int .i64 t] w fun e w' =>
    e = .returned (.tuple #[.bool (dayV x z t), .int .i64 (chk x z [t])]) ∧ Below w.heap.size w w' := by
  have HDV : Hid (dayV x z t = (decide (chk x z [t] = 0) && (decide (0 ≤ t + z * 60) && decide (t + z * 60 ≤ 253402300799) && MC.M x ((t + z * 60).toNat / 86400)))) := Lib.hid rfl
  generalize dayV x z t = R at *
  have HX := Lib.hid hx
  obtain ⟨W1, hW1⟩ : ∃ W1, W1 = (w.alloc (.cells (exV x) 24)).alloc (.cells #[.int .i64 t] 2) := ⟨_, rfl⟩
  have hbx : Blk W1 w.heap.size 24 (exV x) := by rw [hW1]; exact (Blk.new w _ _).alloc _
  have hts : Blk W1 (w.heap.size + 1) 2 #[.int .i64 t] := by rw [hW1]; exact Blk.newAt (by simp)
  have hB1 : Below w.heap.size w W1 := by rw [hW1]; exact ((Below.refl _ w).alloc (Nat.le_refl _) _).alloc (by simp) _
  have CK := Lib.hid (pcheck_ok x hx z [t] (w.heap.size + 1) 1 1 rfl (by decide) W1 (hT.below hB1) (fun k hk => by
    have : k = 0 := by simpa using hk
    subst this; exact hts.cell 0))
  have HW1 := Lib.hid hW1
  rw [hW1] at CK
  clear hW1 hT hx
  have e0 : exV x = #[.int .u64 x.s, .int .u64 x.mi, .int .u64 x.h, .int .u64 x.d, .int .u64 x.mo, .int .u64 x.w, .bool x.ad, .bool x.aw] := rfl
  rw [e0]
  clear e0
  unfold exV at CK
  go_enter Tryz.func142, Tryz.ntmps142
  go_wp2_with fail
  refine (CK.out).mono ?_
  rintro e w2 ⟨rfl, hb⟩
  have hb : Below W1.heap.size W1 w2 := by rw [HW1.out]; exact hb
  have hx2 := hbx.below hb hbx.lt
  have HB2 := Lib.hid (hB1.trans (hb.mono hB1.size))
  have HX2 := Lib.hid hx2
  have c0 : w2.cell? ⟨w.heap.size, 0, none⟩ = some (.int .u64 x.s) := hx2.cell 0
  have c1 : w2.cell? ⟨w.heap.size, 1, none⟩ = some (.int .u64 x.mi) := hx2.cell 1
  have c2 : w2.cell? ⟨w.heap.size, 2, none⟩ = some (.int .u64 x.h) := hx2.cell 2
  have c3 : w2.cell? ⟨w.heap.size, 3, none⟩ = some (.int .u64 x.d) := hx2.cell 3
  have c4 : w2.cell? ⟨w.heap.size, 4, none⟩ = some (.int .u64 x.mo) := hx2.cell 4
  have c5 : w2.cell? ⟨w.heap.size, 5, none⟩ = some (.int .u64 x.w) := hx2.cell 5
  have c6 : w2.cell? ⟨w.heap.size, 6, none⟩ = some (.bool x.ad) := hx2.cell 6
  have c7 : w2.cell? ⟨w.heap.size, 7, none⟩ = some (.bool x.aw) := hx2.cell 7
  clear hb hbx hB1 CK HW1 hts hx2
  by_cases hcz : chk x z [t] = 0
  · obtain ⟨o1, o2, o3⟩ := chk_zero hcz
    have ht := o3 t (by simp)
    have HCZ := Lib.hid hcz
    clear o1 o3
    by_cases h0 : 0 ≤ t + z * 60
    · by_cases h1 : t + z * 60 ≤ 253402300799
      · have hge : decide (0 ≤ t + z * 60) = true := decide_eq_true h0
        have hle : decide (t + z * 60 ≤ 253402300799) = true := decide_eq_true h1
        obtain ⟨n, hn⟩ : ∃ n : Nat, n = (t + z * 60).toNat / 86400 := ⟨_, rfl⟩
        have en : (t + z * 60) / 86400 = (n : Int) := by omega
        have HR : Hid (R = MC.M x n) := Lib.hid (by rw [HDV.out, hcz, hge, hle, ← hn]; rfl)
        have hn2 : n ≤ 2932896 := by omega
        clear hn
        have CM := Lib.hid (fun W hb => matcher_ok x HX.out n hn2 w2.heap.size W hb)
        go_wp2_with fail
        refine (matcher_mk x w2).mono ?_
        rintro e w3 ⟨rfl, rfl⟩
        go_wp2_with fail
        rw [en]
        refine (CM.out _ (Blk.new w2 _ _)).mono ?_
        rintro e w4 ⟨rfl, hb4⟩
        go_wp2_with fail
        go_ret2
        exact ⟨ret_be HR.out.symm HCZ.out.symm, (HB2.out.alloc HB2.out.size _).trans (hb4.mono (by have := HB2.out.size; simp; omega))⟩
      · have hge : decide (0 ≤ t + z * 60) = true := decide_eq_true h0
        have hle : decide (t + z * 60 ≤ 253402300799) = false := decide_eq_false h1
        have HR : Hid (R = false) := Lib.hid (by rw [HDV.out, hle]; simp)
        go_wp2_with fail
        go_ret2
        exact ⟨ret_be HR.out.symm HCZ.out.symm, HB2.out⟩
    · have hge : decide (0 ≤ t + z * 60) = false := decide_eq_false h0
      have HR : Hid (R = false) := Lib.hid (by rw [HDV.out, hge]; simp)
      go_wp2_with fail
      go_ret2
      exact ⟨ret_be HR.out.symm HCZ.out.symm, HB2.out⟩
  · have HR : Hid (R = false) := Lib.hid (by rw [HDV.out, decide_eq_false hcz]; rfl)
    obtain ⟨c, hc⟩ : ∃ c, c = chk x z [t] := ⟨_, rfl⟩
    have HC := Lib.hid hc
    rw [← hc] at hcz
    have hc2 := hc.symm
    clear hc
    have hcz2 : (c == 0) = false := by rw [beq_eq_false_iff_ne]; exact hcz
    go_wp2_with fail
    go_ret2
    exact ⟨ret_be HR.out.symm HC.out, HB2.out⟩
end Go.Proofs.YtmdjfjdlehdhjaaGreatDoor.BW
namespace Go.Proofs.YtmdjfjdlehdhjaaGreatDoor.BW
open Go.RowKit BM Go.Shelf MC
open BK hiding ret_bool ret_i64

theorem fst_self {x : Ex} {f : Nat} (hf : f < 86400) (h : clk x f = true) : MC.fst x f = some f := fst_some.2 ⟨hf, Nat.le_refl _, h, fun t h1 h2 => by omega⟩
theorem fst_not {x : Ex} {f s : Nat} (h : clk x f = false) (hs : MC.fst x f = some s) : s ≠ f := by
  rintro rfl
  obtain ⟨_, _, h3, _⟩ := fst_some.1 hs
  rw [h] at h3; cases h3
set_option maxRecDepth 8000 in
set_option maxHeartbeats 4000000 in
theorem pis_ok (x : Ex) (hx : U64s x) (z t : Int) (w : World) (hT : SpTab w) (hTab : Tab w) : Calls Tryz.prog 108 #[.agg (exV x), .int .i64 z, .int .i64 t] w fun e w' =>
    e = .returned (.tuple #[.bool (isV x z t), .int .i64 (chk x z [t])]) ∧ Below w.heap.size w w' := by
  have hB0 : Below w.heap.size w (w.alloc (.cells (exV x) 24)) := (Below.refl _ w).alloc (Nat.le_refl _) _
  have hgt : 1 < w.heap.size := World.block_lt_of_cell? w _ (hTab 0 (by decide))
  have CD := Lib.hid (pday_ok x hx z t _ (hT.below hB0))
  have hbx := Blk.new w 24 (exV x)
  have HDV : Hid (dayV x z t = (decide (chk x z [t] = 0) && (decide (0 ≤ t + z * 60) && decide (t + z * 60 ≤ 253402300799) && MC.M x ((t + z * 60).toNat / 86400)))) := Lib.hid rfl
  have HIV : Hid (isV x z t = (decide (chk x z [t] = 0) && (decide (0 ≤ t + z * 60) && decide (t + z * 60 ≤ 253402300799) && T x (t + z * 60).toNat))) := Lib.hid rfl
  generalize dayV x z t = D at *
  generalize isV x z t = R at *
  have HX := Lib.hid hx
  have HB0 := Lib.hid hB0
  have HTB := Lib.hid hTab
  clear hB0 hT hTab hx
  have e0 : exV x = #[.int .u64 x.s, .int .u64 x.mi, .int .u64 x.h, .int .u64 x.d, .int .u64 x.mo, .int .u64 x.w, .bool x.ad, .bool x.aw] := rfl
  rw [e0]
  clear e0
  have hb' := hbx
  unfold exV at CD hbx
  go_enter Tryz.func108, Tryz.ntmps108
  go_wp2_with fail
  refine (CD.out).mono ?_
  rintro e w2 ⟨rfl, hb⟩
  have hx2 := Blk.below hbx hb hbx.lt
  have HB2 := Lib.hid (HB0.out.trans (Below.mono (w := w.alloc (.cells (exV x) 24)) hb (HB0.out.size)))
  have c0 : w2.cell? ⟨w.heap.size, 0, none⟩ = some (.int .u64 x.s) := hx2.cell 0
  have c1 : w2.cell? ⟨w.heap.size, 1, none⟩ = some (.int .u64 x.mi) := hx2.cell 1
  have c2 : w2.cell? ⟨w.heap.size, 2, none⟩ = some (.int .u64 x.h) := hx2.cell 2
  have c3 : w2.cell? ⟨w.heap.size, 3, none⟩ = some (.int .u64 x.d) := hx2.cell 3
  have c4 : w2.cell? ⟨w.heap.size, 4, none⟩ = some (.int .u64 x.mo) := hx2.cell 4
  have c5 : w2.cell? ⟨w.heap.size, 5, none⟩ = some (.int .u64 x.w) := hx2.cell 5
  have c6 : w2.cell? ⟨w.heap.size, 6, none⟩ = some (.bool x.ad) := hx2.cell 6
  have c7 : w2.cell? ⟨w.heap.size, 7, none⟩ = some (.bool x.aw) := hx2.cell 7
  clear hb hbx hb' CD hx2
  have HT2 := Lib.hid (tab_below HTB.out HB2.out hgt)
  by_cases hcz : chk x z [t] = 0
  · cases hD : D with
    | false =>
      have HR : Hid (R = false) := Lib.hid (by
        rw [HIV.out]
        have h := HDV.out
        rw [hD, decide_eq_true hcz, Bool.true_and] at h
        unfold T
        rw [decide_eq_true hcz, Bool.true_and, ← Bool.and_assoc, ← h]
        rfl)
      have HCZ := Lib.hid hcz
      subst hD
      go_wp2_with fail
      go_ret2
      exact ⟨ret_be HR.out.symm HCZ.out.symm, HB2.out⟩
    | true =>
      obtain ⟨o1, o2, o3⟩ := chk_zero hcz
      have ht := o3 t (by simp)
      have hok := ok_of_ck o1
      have hrange : (0 ≤ t + z * 60 ∧ t + z * 60 ≤ 253402300799) ∧ MC.M x ((t + z * 60).toNat / 86400) = true := by
        have h := HDV.out
        rw [hD] at h
        simpa [hcz] using h.symm
      obtain ⟨f, hf⟩ : ∃ f : Nat, f = (t + z * 60).toNat % 86400 := ⟨_, rfl⟩
      have HR : Hid (R = clk x f) := Lib.hid (by
        rw [HIV.out, hcz]
        unfold T
        rw [hrange.2, ← hf, decide_eq_true hrange.1.1, decide_eq_true hrange.1.2]
        simp)
      have ef : (t + z * 60) % 86400 = (f : Int) := by omega
      have hf1 : f < 86400 := by omega
      have EF : Hid ((t + z * 60).tmod 86400 = (f : Int)) := Lib.hid (by rw [Int.tmod_eq_emod_of_nonneg hrange.1.1]; exact ef)
      have HCZ := Lib.hid hcz
      have CF := Lib.hid (first_ok x HX.out hok f hf1 w2 HT2.out)
      subst hD
      clear ef hf o1 o3 hrange
      cases hk : clk x f with
      | true =>
        have hfs := fst_self hf1 hk
        rw [hfs] at CF
        rw [hk] at HR
        clear hk hfs
        unfold exV at CF
        go_wp2_with fail
        rw [EF.out]
        refine (CF.out).mono ?_
        rintro e w3 ⟨rfl, hb3⟩
        simp only [num, Option.getD_some, Option.isSome_some]
        go_wp2_with fail
        go_ret2
        exact ⟨ret_be (by rw [HR.out]) HCZ.out.symm, HB2.out.trans (hb3.mono HB2.out.size)⟩
      | false =>
        rw [hk] at HR
        cases hfs : MC.fst x f with
        | none =>
          rw [hfs] at CF
          clear hk hfs
          unfold exV at CF
          go_wp2_with fail
          rw [EF.out]
          refine (CF.out).mono ?_
          rintro e w3 ⟨rfl, hb3⟩
          simp only [num, Option.getD_none, Option.isSome_none]
          go_wp2_with fail
          go_ret2
          exact ⟨ret_be HR.out.symm HCZ.out.symm, HB2.out.trans (hb3.mono HB2.out.size)⟩
        | some s =>
          have hne := fst_not hk hfs
          rw [hfs] at CF
          clear hk hfs
          unfold exV at CF
          have hq : ((s : Int) == (f : Int)) = false := by rw [beq_eq_false_iff_ne]; omega
          have hq2 : ¬ ((s : Int) = (f : Int)) := by omega
          go_wp2_with fail
          rw [EF.out]
          refine (CF.out).mono ?_
          rintro e w3 ⟨rfl, hb3⟩
          simp only [num, Option.getD_some, Option.isSome_some]
          go_wp2_with fail
          go_ret2
          exact ⟨ret_be (by rw [HR.out]) HCZ.out.symm, HB2.out.trans (hb3.mono HB2.out.size)⟩
  · have HR : Hid (R = false) := Lib.hid (by rw [HIV.out, decide_eq_false hcz]; rfl)
    have HD : Hid (D = false) := Lib.hid (by rw [HDV.out, decide_eq_false hcz]; rfl)
    obtain ⟨c, hc⟩ : ∃ c, c = chk x z [t] := ⟨_, rfl⟩
    have HC := Lib.hid hc
    have hD := HD.out
    subst hD
    have hc2 := hc.symm
    clear hc hcz
    go_wp2_with fail
    go_ret2
    exact ⟨ret_be HR.out.symm HC.out, HB2.out⟩
end Go.Proofs.YtmdjfjdlehdhjaaGreatDoor.BW
namespace Go.Proofs.YtmdjfjdlehdhjaaGreatDoor.BW
open Go.RowKit BM Go.Shelf MC
open BK hiding ret_bool ret_i64

/-- The box lies behind the heap that came in; the tables stand. -/
structure Box (w : World) (x : Ex) (W : World) : Prop where
  below : Below w.heap.size w W
  blk : Blk W w.heap.size 24 (exV x)
  sp : SpTab W
  tab : Tab W
theorem tab_lt {w : World} (h : Tab w) : 1 < w.heap.size := World.block_lt_of_cell? w _ (h 0 (by decide))
theorem Box.first (x : Ex) {w : World} (hT : SpTab w) (hTab : Tab w) : Box w x (w.alloc (.cells (exV x) 24)) :=
  have hB : Below w.heap.size w (w.alloc (.cells (exV x) 24)) := (Below.refl _ w).alloc (Nat.le_refl _) _
  ⟨hB, Blk.new _ _ _, hT.below hB, tab_below hTab hB (tab_lt hTab)⟩
theorem Box.next {w : World} {x : Ex} {W W' : World} (h : Box w x W) (hb : Below W.heap.size W W') : Box w x W' :=
  ⟨h.below.trans (hb.mono h.below.size), Blk.below h.blk hb h.blk.lt, h.sp.below hb, tab_below h.tab hb (tab_lt h.tab)⟩
theorem Box.cells {w : World} {x : Ex} {W : World} (h : Box w x W) : W.cell? ⟨w.heap.size, 0, none⟩ = some (.int .u64 x.s) ∧ W.cell? ⟨w.heap.size, 1, none⟩ = some (.int .u64 x.mi) ∧ W.cell? ⟨w.heap.size, 2, none⟩ = some (.int .u64 x.h) ∧ W.cell? ⟨w.heap.size, 3, none⟩ = some (.int .u64 x.d) ∧ W.cell? ⟨w.heap.size, 4, none⟩ = some (.int .u64 x.mo) ∧ W.cell? ⟨w.heap.size, 5, none⟩ = some (.int .u64 x.w) ∧ W.cell? ⟨w.heap.size, 6, none⟩ = some (.bool x.ad) ∧ W.cell? ⟨w.heap.size, 7, none⟩ = some (.bool x.aw) :=
  ⟨h.blk.cell 0, h.blk.cell 1, h.blk.cell 2, h.blk.cell 3, h.blk.cell 4, h.blk.cell 5, h.blk.cell 6, h.blk.cell 7⟩
theorem Box.day {w : World} {x : Ex} {W : World} (hx : U64s x) (z t : Int) {a : Bool} {c : Int} (ha : dayV x z t = a) (hc : chk x z [t] = c) (h : Box w x W) : Calls Tryz.prog 142 #[.agg #[.int .u64 x.s, .int .u64 x.mi, .int .u64 x.h, .int .u64 x.d, .int .u64 x.mo, .int .u64 x.w, .bool x.ad, .bool x.aw], .int .i64 z, .int .i64 t] W fun e W' =>
    e = .returned (.tuple #[.bool a, .int .i64 c]) ∧ Box w x W' := by
  subst ha hc
  exact (pday_ok x hx z t W h.sp).mono fun e W' ⟨h1, h2⟩ => ⟨h1, h.next h2⟩
theorem Box.is {w : World} {x : Ex} {W : World} (hx : U64s x) (z t : Int) {a : Bool} {c : Int} (ha : isV x z t = a) (hc : chk x z [t] = c) (h : Box w x W) : Calls Tryz.prog 108 #[.agg #[.int .u64 x.s, .int .u64 x.mi, .int .u64 x.h, .int .u64 x.d, .int .u64 x.mo, .int .u64 x.w, .bool x.ad, .bool x.aw], .int .i64 z, .int .i64 t] W fun e W' =>
    e = .returned (.tuple #[.bool a, .int .i64 c]) ∧ Box w x W' := by
  subst ha hc
  exact (pis_ok x hx z t W h.sp h.tab).mono fun e W' ⟨h1, h2⟩ => ⟨h1, h.next h2⟩
/-- What a call asks of the box, for whatever world. -/
theorem ret_true (w : World) {W : World} (h : Below w.heap.size w W) : Ending.returned (.bool true) = .returned (.bool true) ∧ Below w.heap.size w W := ⟨rfl, h⟩

theorem dayV_ok {x : Ex} {z t : Int} (h : chk x z [t] = 0) : dayV x z t = (decide (0 ≤ t + z * 60) && decide (t + z * 60 ≤ 253402300799) && MC.M x ((t + z * 60).toNat / 86400)) := by
  unfold dayV; rw [h, Bool.and_assoc]; rfl
theorem isV_ok {x : Ex} {z t : Int} (h : chk x z [t] = 0) : isV x z t = (decide (0 ≤ t + z * 60) && decide (t + z * 60 ≤ 253402300799) && T x (t + z * 60).toNat) := by
  unfold isV; rw [h]; rfl
theorem dayV_bad {x : Ex} {z t : Int} (h : chk x z [t] ≠ 0) : dayV x z t = false := by unfold dayV; rw [decide_eq_false h]; rfl
theorem isV_bad {x : Ex} {z t : Int} (h : chk x z [t] ≠ 0) : isV x z t = false := by unfold isV; rw [decide_eq_false h]; rfl
theorem zone0 : zoneR 0 = 0 := by unfold zoneR; simp
theorem chk_one {x : Ex} {z t : Int} (h : ckR x = 0) (hz : zoneR z = 0) : chk x z [t] = if 0 ≤ t ∧ t ≤ 253402300799 then 0 else 14 := by
  rw [chk_times h hz]
  unfold timesR tOk
  simp
theorem zone_of {x : Ex} {z : Int} {ts : List Int} (h : chk x z ts = 0) : zoneR z = 0 := by
  have h1 := ckR_cases x
  unfold chk at h
  split at h
  · omega
  · split at h
    · omega
    · omega
end Go.Proofs.YtmdjfjdlehdhjaaGreatDoor.BW
