/- Launches that a limiter has counted keep to its limit. -/
import Derived.Test.YtpgckpafjiojfaaGreatDoorAHn
namespace Go.Proofs.YtpgckpafjiojfaaGreatDoor.AD
open Go Go.RowKit BW
open BK (Bx BoxAt Blk only_refl only_drew only_drewN only_setCell only_trans only_of_below only_alloc below_drewN)
/-- The times that a limiter has counted. -/
structure Gc (l : Lm) (ts : List Int) : Prop where
  pair : ∀ (i k : Nat) (hi : i ≤ k) (hk : k < ts.length), ((k - i : Nat) : Int) * l.t ≤ ts[k] - ts[i] + l.tau
  tat : ∀ (i : Nat) (hi : i < ts.length), ts[i] + ((ts.length - i : Nat) : Int) * l.t ≤ l.tat
  so : l.so = false → ts = []
  la : ∀ (i : Nat) (hi : i < ts.length), ts[i] ≤ l.last
theorem gc_new (t tau : Int) : Gc (lm0 t tau) [] := ⟨fun _ _ _ hk => (Nat.not_lt_zero _ hk).elim, fun _ hi => (Nat.not_lt_zero _ hi).elim, fun _ => rfl, fun _ hi => (Nat.not_lt_zero _ hi).elim⟩
theorem Gc.count {l : Lm} {ts : List Int} {now : Int} (h : Gc l ts) (hi : l.Inv) (hc : l.check now = 0) : Gc (l.count now) (ts ++ [now]) := by
  obtain ⟨h1, h2, h3⟩ := Lm.check_zero hc
  have ht := hi.t0
  have ha := hi.a0
  have hso : ∀ (i : Nat), i < ts.length → l.so = true := fun i hl => by
    cases hs : l.so
    · rw [h.so hs] at hl; exact (Nat.not_lt_zero _ hl).elim
    · rfl
  refine ⟨fun i k hik hk => ?_, fun i hl => ?_, (fun hs => by cases hs), fun i hl => ?_⟩
  · show ((k - i : Nat) : Int) * l.t ≤ _ + l.tau
    rw [List.length_append] at hk
    rcases Nat.lt_or_ge k ts.length with hk1 | hk1
    · rw [List.getElem_append_left hk1, List.getElem_append_left (Nat.lt_of_le_of_lt hik hk1)]
      exact h.pair i k hik hk1
    · have hke : k = ts.length := by simp at hk; omega
      subst hke
      rw [List.getElem_append_right (Nat.le_refl _)]
      rcases Nat.lt_or_ge i ts.length with hi1 | hi1
      · rw [List.getElem_append_left hi1]
        have hso' := hso i hi1
        have e1 := h.tat i hi1
        have e2 := h.la i hi1
        have e3 := h2 hso'
        simp only [List.getElem_singleton]
        unfold Lm.early at h3
        rw [hso'] at h3
        simp only [Bool.true_and, Bool.and_eq_false_iff, decide_eq_false_iff_not] at h3
        rcases h3 with h3 | h3
        · have h0 : l.t = 0 := by omega
          rw [h0, Int.mul_zero]
          omega
        · generalize ((ts.length - i : Nat) : Int) * l.t = p at *
          omega
      · have : i = ts.length := by omega
        subst this
        simp
        omega
  · show _ + (((ts ++ [now]).length - i : Nat) : Int) * l.t ≤ max now l.tat + l.t
    rw [List.length_append] at hl ⊢
    rcases Nat.lt_or_ge i ts.length with hi1 | hi1
    · rw [List.getElem_append_left hi1]
      have e1 := h.tat i hi1
      have e : ((ts.length + [now].length - i : Nat) : Int) = ((ts.length - i : Nat) : Int) + 1 := by simp; omega
      rw [e, Int.add_mul, Int.one_mul]
      generalize ((ts.length - i : Nat) : Int) * l.t = p at *
      omega
    · have : i = ts.length := by simp at hl; omega
      subst this
      rw [List.getElem_append_right (Nat.le_refl _)]
      have e : ((ts.length + [now].length - ts.length : Nat) : Int) = 1 := by simp
      rw [e, Int.one_mul]
      simp only [Nat.sub_self, List.getElem_singleton]
      omega
  · show _ ≤ now
    rw [List.length_append] at hl
    rcases Nat.lt_or_ge i ts.length with hi1 | hi1
    · rw [List.getElem_append_left hi1]
      have e2 := h.la i hi1
      have e3 := h2 (hso i hi1)
      omega
    · rw [List.getElem_append_right hi1]
      simp
/-- Launches in memory. -/
def LauncsAt (W : World) (a : Option Addr) (ts : List Int) : Prop := ∀ k (hk : k < ts.length), ∃ b off, a = some ⟨b, off, none⟩ ∧ W.cell? ⟨b, off + k * 2 + 1, none⟩ = some (.int .i64 ts[k])
theorem LauncsAt.below {W W' : World} {a : Option Addr} {ts : List Int} (h : LauncsAt W a ts) (hb : Below W.heap.size W W') : LauncsAt W' a ts := fun k hk => by
  obtain ⟨b, off, e, h1⟩ := h k hk
  exact ⟨b, off, e, (hb.cell (p := ⟨b, off + k * 2 + 1, none⟩) (World.block_lt_of_cell? W _ h1)).trans h1⟩
set_option maxHeartbeats 1000000 in
theorem keeps_ok (a : Option Addr) (n c : Nat) (ts : List Int) (hn : ts.length = n) (hn60 : n ≤ 60) (_ : n ≤ c) (T tau : Int) (hT : 0 ≤ T ∧ T ≤ 7) (ha : 0 ≤ tau ∧ tau ≤ 31) (hs : ∀ (i : Nat) (x : Int), ts[i]? = some x → 0 ≤ x ∧ x ≤ 1000)
    (hp : ∀ (i k : Nat) (x y : Int), i ≤ k → ts[i]? = some x → ts[k]? = some y → ((k - i : Nat) : Int) * T ≤ y - x + tau) (w : World) (hL : LauncsAt w a ts) :
    Calls Tryz.prog 15 #[.slice a n c, .agg #[.int .i64 T, .int .i64 tau]] w fun e w' => e = .returned (.bool true) ∧ Below w.heap.size w w' := by
  have HL := Lib.hid hL
  have HN := Lib.hid hn
  have HS := Lib.hid hs
  have HP := Lib.hid hp
  have CB : Hid (Blk (w.alloc (.cells #[.int .i64 T, .int .i64 tau] 26)) w.heap.size 26 #[.int .i64 T, .int .i64 tau]) := Lib.hid (Blk.new _ _ _)
  have B0 : Hid (Below w.heap.size w (w.alloc (.cells #[.int .i64 T, .int .i64 tau] 26))) := Lib.hid ((Below.refl _ _).alloc (Nat.le_refl _) _)
  clear hL hn hs hp
  go_enter Tryz.func15, Tryz.ntmps15
  go_wp2_with fail
  go_loopw [9] (fun s9 wr => ∃ i : Nat, i ≤ n ∧ s9 = .int .i64 i ∧ Below w.heap.size w wr ∧ Blk wr w.heap.size 26 #[.int .i64 T, .int .i64 tau]) (fun s9 _ => n - intA s9)
  case atStart => exact ⟨0, Nat.zero_le _, rfl, B0.out, CB.out⟩
  case round =>
    obtain ⟨i, hi, rfl, hb, hk⟩ := hrel
    have BB := Lib.hid hb
    have KB := Lib.hid hk
    clear hb hk CB B0
    rcases Nat.lt_or_ge i n with hlt | hge
    · go_wp2_with fail
      go_loopw [6] (fun s6 wx => ∃ k : Nat, i ≤ k ∧ k ≤ n ∧ s6 = .int .i64 k ∧ Below w.heap.size w wx ∧ Blk wx w.heap.size 26 #[.int .i64 T, .int .i64 tau]) (fun s6 _ => n - intA s6)
      case atStart => exact ⟨i, Nat.le_refl _, by omega, rfl, BB.out, KB.out⟩
      case round =>
        obtain ⟨k, hik, hk, rfl, hb, hkb⟩ := hrel
        have BX := Lib.hid hb
        have KX := Lib.hid hkb
        clear hb hkb BB KB
        rcases Nat.lt_or_ge k n with hlk | hgk
        · have hil : i < ts.length := by rw [HN.out]; exact hlt
          have hkl : k < ts.length := by rw [HN.out]; exact hlk
          obtain ⟨b, off, rfl, c1⟩ := (HL.out.below BX.out) i hil
          obtain ⟨b2, off2, e2, c2⟩ := (HL.out.below BX.out) k hkl
          injection e2 with e2
          injection e2 with e3 e4 e5
          subst e3 e4
          obtain ⟨x, hx⟩ : ∃ x, ts[i] = x := ⟨_, rfl⟩
          obtain ⟨y, hy⟩ : ∃ y, ts[k] = y := ⟨_, rfl⟩
          rw [hx] at c1
          rw [hy] at c2
          have hxs := HS.out i x (by rw [List.getElem?_eq_getElem hil, hx])
          have hys := HS.out k y (by rw [List.getElem?_eq_getElem hkl, hy])
          have hpp := HP.out i k x y hik (by rw [List.getElem?_eq_getElem hil, hx]) (by rw [List.getElem?_eq_getElem hkl, hy])
          rw [show ((k - i : Nat) : Int) = (k : Int) - (i : Int) by omega] at hpp
          have hp0 : 0 ≤ ((k : Int) - (i : Int)) * T := Int.mul_nonneg (by omega) hT.1
          obtain ⟨p, hpe⟩ : ∃ p : Int, ((k : Int) - (i : Int)) * T = p := ⟨_, rfl⟩
          rw [hpe] at hpp hp0
          have hw : IntKind.i64.wrap (((k : Int) - (i : Int)) * T) = p := by rw [hpe, IntWalk.i64_in _ (by omega)]
          have q1 : decide (y - x + tau < p) = false := decide_eq_false (by omega)
          have t0 : wr.cell? ⟨w.heap.size, 0, none⟩ = some (.int .i64 T) := KX.out.cell 0
          have t1 : wr.cell? ⟨w.heap.size, 1, none⟩ = some (.int .i64 tau) := KX.out.cell 1
          clear hx hy hil hkl
          go_upto_region 7 with fail
          go_quiet (fail)
          go_wp2_with fail
          refine ⟨⟨k + 1, by omega, by omega, by go_num, below_drewN BX.out _, KX.out.drewN _⟩, ?_⟩
          simp [intA]; omega
        · obtain rfl : n = k := by omega
          go_wp2_with fail
          refine ⟨⟨i + 1, by omega, by go_num, BX.out, KX.out⟩, ?_⟩
          simp [intA]; omega
    · obtain rfl : n = i := by omega
      go_wp2_with fail
      go_ret
      exact ⟨rfl, BB.out⟩
end Go.Proofs.YtpgckpafjiojfaaGreatDoor.AD
