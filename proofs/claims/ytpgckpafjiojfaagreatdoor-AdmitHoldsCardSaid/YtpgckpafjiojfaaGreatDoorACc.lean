/- caps: Copy and New. -/
import Derived.Test.YtpgckpafjiojfaaGreatDoorACb
import Derived.Test.YtpgckpafjiojfaaGreatDoorACfg
import Derived.Deep.WholeRow
import Derived.Deep.MidRow
import Derived.Laws.CopyOwn
namespace Go.Proofs.YtpgckpafjiojfaaGreatDoor.AD
open Go Go.RowKit BW
open BK (Blk only_refl only_drew only_drewN only_setCell only_trans only_of_below only_alloc below_drewN)
theorem caps_info : (Tryz.prog.info? 174).map (·.size) = some 132 := by kernel_rfl
def zC : Array Value := (Value.bool false :: List.replicate 131 (Value.int .i64 0)).toArray
theorem Cp.size (c : Cp) : c.cells.size = 132 := Array.size_ofFn
theorem Cp.one (c : Cp) : c.cells.all (·.oneCell') = true := by
  rw [Array.all_eq_true]
  intro i hi
  rw [Cp.cells_at]
  unfold Cp.cell
  repeat' split
  all_goals rfl
theorem CpAt.load {w : World} {b : Nat} {c : Cp} (h : CpAt w b c) : (loadVar 174 ⟨b, 0, none⟩).run Tryz.prog w = .ok (.agg c.cells) w := by
  have := run_loadVar_mid (P := Tryz.prog) w b 0 174 c.cells.toList (.struct (Tryz.prog.fieldsOf 174)) (fun i v hv => by
    have hi : i < 132 := by have := (List.getElem?_eq_some_iff.1 hv).1; rw [Array.length_toList, c.size] at this; exact this
    rw [Nat.zero_add, Blk.cell h, ← Array.getElem?_toList, hv]) (by kernel_rfl) (by kernel_rfl) (by rw [caps_info, Array.length_toList, c.size])
  rwa [Array.toArray_toList] at this
theorem Cp.store (c : Cp) (w : World) : (storeVar 174 ⟨w.heap.size, 0, none⟩ (.agg c.cells)).run Tryz.prog (w.alloc (.cells zC 174)) = .ok () (w.alloc (.cells c.cells 174)) :=
  Go.run_storeVar_new w 174 zC c.cells (by rw [caps_info, c.size]) (by rw [c.size]; kernel_rfl) c.one
/-- A row of numbers. -/
def RowI (W : World) (B : Nat) (a : Option Addr) (es : List Int) : Prop := 0 < es.length → ∃ b cs, a = some ⟨b, 0, none⟩ ∧ B ≤ b ∧ Blk W b 3 cs ∧ ∀ k (hk : k < es.length), cs[k]? = some (.int .i64 es[k])
theorem rowI_of {B : Nat} {v : Value} {es : List Int} {W : World} (h : OwnsJ B v es W) : ∃ a cap, v = .slice a es.length cap ∧ RowI W B a es := by
  obtain ⟨hl, h⟩ := h
  rcases h with ⟨rfl, h0⟩ | ⟨g, cap, cur, rfl, hb, hg, hn, hc, hs, ht⟩
  · have : es = [] := List.eq_nil_of_length_eq_zero h0
    subst this
    exact ⟨none, 0, rfl, fun hk => by simp at hk⟩
  · refine ⟨_, cap, rfl, fun _ => ⟨g, cur, rfl, hb, hg, fun k hk => ?_⟩⟩
    have h1 : (es.map tcell)[k]? = some (tcell es[k]) := by simp [hk]
    rw [← ht, List.getElem?_take, if_pos (by omega)] at h1
    simpa [tcell] using h1
theorem RowI.below {W W' : World} {B : Nat} {a : Option Addr} {es : List Int} (h : RowI W B a es) (hb : Below W.heap.size W W') : RowI W' B a es := fun h0 => by
  obtain ⟨b, cs, e, h1, h2, h3⟩ := h h0
  exact ⟨b, cs, e, h1, h2.below hb h2.lt, h3⟩
theorem beyond_ok {n : Int} (h : 0 ≤ n ∧ n ≤ 1000) (w : World) : Calls Tryz.prog 99 #[.int .i64 n] w fun e w' => e = .returned (.bool false) ∧ w = w' := by
  obtain ⟨h0, h1⟩ := h
  go_enter Tryz.func99, Tryz.ntmps99
  go_wp2_with fail
  go_ret
  exact ⟨retB (by simp; omega), rfl⟩
set_option maxRecDepth 8000 in
set_option maxHeartbeats 2000000 in
theorem cindex_ok {B : Nat} (es : List Int) (a : Option Addr) (cap : Nat) (hn : es.length ≤ 64) (hB : ∀ n ∈ es, 0 ≤ n ∧ n ≤ 1000) (w : World) (h : RowI w B a es) :
    Calls Tryz.prog 146 #[.slice a es.length cap, .func (.func 99) #[] #[]] w fun e w' => e = .returned (.int .i64 (-1)) ∧ w = w' := by
  have HH := Lib.hid h
  have HE := Lib.hid (fun k (hk : k < es.length) W => beyond_ok (hB es[k] (List.getElem_mem hk)) W)
  obtain ⟨n, hnn⟩ : ∃ n, n = es.length := ⟨_, rfl⟩
  have HN := Lib.hid hnn
  rw [← hnn] at hn ⊢
  clear hB h hnn
  go_enter Tryz.func146, Tryz.ntmps146
  go_wp2_with fail
  go_loop [8] (fun s8 => ∃ k : Nat, k ≤ n ∧ s8 = .int .i64 k) (fun s8 => n - intJ s8)
  case atStart => exact ⟨0, Nat.zero_le _, rfl⟩
  case round =>
    obtain ⟨k, hk, rfl⟩ := hrel
    rcases Nat.lt_or_ge k n with hlt | hge
    · have hkl : k < es.length := by have := HN.out; omega
      obtain ⟨b, cs, rfl, -, h2, h3⟩ := HH.out (by omega)
      have hc : w.cell? ⟨b, k, none⟩ = some (.int .i64 es[k]) := (h2.cell k).trans (h3 k hkl)
      have CC := Lib.hid (HE.out k hkl w)
      generalize es[k] = v at *
      clear h2 h3 hkl
      go_wp2_with fail
      refine (CC.out).mono ?_
      rintro e_ w2 ⟨rfl, rfl⟩
      go_wp2_with fail
      go_round
      case rel => exact ⟨k + 1, by omega, by go_num⟩
      case measure => simp [intJ]; omega
    · obtain rfl : n = k := by omega
      go_wp2_with fail
      go_ret
      exact ⟨rfl, rfl⟩
theorem ccontains_ok {B : Nat} (es : List Int) (a : Option Addr) (cap : Nat) (hn : es.length ≤ 64) (hB : ∀ n ∈ es, 0 ≤ n ∧ n ≤ 1000) (w : World) (h : RowI w B a es) :
    Calls Tryz.prog 100 #[.slice a es.length cap, .func (.func 99) #[] #[]] w fun e w' => e = .returned (.bool false) ∧ w = w' := by
  have C := Lib.hid (cindex_ok es a cap hn hB w h)
  clear hB h
  generalize es.length = n at *
  go_enter Tryz.func100, Tryz.ntmps100
  go_wp2_with fail
  refine (C.out).mono ?_
  rintro e_ w2 ⟨rfl, rfl⟩
  go_wp2_with fail
  go_ret
  exact ⟨rfl, rfl⟩
def cp0 (all : Int) (es : List Int) : Cp := ⟨all, es.length, fun k => es.getD k 0, fun _ => 0, 0⟩
def nC (all : Int) (n : Nat) : List Value := Value.bool true :: Value.int .i64 all :: Value.int .i64 n :: List.replicate 129 (Value.int .i64 0)
theorem cp0_cells (all : Int) (es : List Int) (hn : es.length ≤ 64) : (splice (nC all es.length) 3 (es.map fun n => Value.int .i64 n)).toArray = (cp0 all es).cells := by
  have hl : (nC all es.length).length = 132 := rfl
  apply Array.ext
  · simp [Cp.cells, splice, hl]
    omega
  · intro i h1 h2
    have hi : i < 132 := by simpa [Cp.cells] using h2
    have key : ((splice (nC all es.length) 3 (es.map fun n => Value.int .i64 n)))[i]? = some ((cp0 all es).cell i) := by
      unfold splice cp0 Cp.cell
      by_cases h3 : i < 3
      · rw [List.getElem?_append_left (by simp [hl]; omega), List.getElem?_take_of_lt h3]
        obtain rfl | rfl | rfl : i = 0 ∨ i = 1 ∨ i = 2 := by omega
        all_goals rfl
      · rw [if_neg (by omega), if_neg (by omega), if_neg (by omega)]
        have hz : ∀ j, 3 ≤ j → j < 132 → (nC all es.length)[j]? = some (.int .i64 0) := by
          intro j h4 h5
          obtain ⟨m, rfl⟩ : ∃ m, j = m + 3 := ⟨j - 3, by omega⟩
          unfold nC
          rw [List.getElem?_cons_succ, List.getElem?_cons_succ, List.getElem?_cons_succ, List.getElem?_replicate, if_pos (by omega)]
        by_cases h4 : i < 3 + es.length
        · have e : i - (List.take 3 (nC all es.length)).length = i - 3 := by simp [hl]
          rw [List.getElem?_append_right (by simp [hl]; omega), e, List.getElem?_append_left (by simp; omega)]
          rw [List.getElem?_map, List.getElem?_eq_getElem (by omega)]
          rw [if_pos (by omega)]
          show some _ = some (Value.int .i64 (es.getD (i - 3) 0))
          rw [List.getD_eq_getElem?_getD, List.getElem?_eq_getElem (by omega)]
          rfl
        · have e : i - (List.take 3 (nC all es.length)).length = i - 3 := by simp [hl]
          rw [List.getElem?_append_right (by simp [hl]; omega), e, List.getElem?_append_right (by simp; omega), List.getElem?_drop]
          have e2 : 3 + (es.map fun n => Value.int .i64 n).length + (i - 3 - (es.map fun n => Value.int .i64 n).length) = i := by simp; omega
          rw [e2, hz i (by omega) hi]
          by_cases h5 : i < 67
          · rw [if_pos h5]
            show some _ = some (Value.int .i64 (es.getD (i - 3) 0))
            rw [List.getD_eq_getElem?_getD, List.getElem?_eq_none (by omega)]
            rfl
          · rw [if_neg h5]
            split <;> rfl
    have h3 : i < (splice (nC all es.length) 3 (es.map fun n => Value.int .i64 n)).length := by simpa using h1
    rw [List.getElem?_eq_getElem h3] at key
    rw [Cp.cells_at]
    simpa using Option.some.inj key
noncomputable def cpZ (all : Int) (n : Nat) : Array Value := ((Tryz.zeroCells174.setIfInBounds 0 (.bool true)).setIfInBounds 1 (.int .i64 all)).setIfInBounds 2 (.int .i64 n)
theorem cpZ_eq (all : Int) (n : Nat) : cpZ all n = (nC all n).toArray := by kernel_rfl
theorem int_size : (Tryz.prog.info? 3).map (·.size) = some 1 := by kernel_rfl
theorem cp0_copy {B : Nat} (all : Int) (es : List Int) (a : Option Addr) (cap : Nat) (hn : es.length ≤ 64) (w : World) (h : RowI w B a es) :
    ∃ W2, (Builtin.copy_ #[39, 39] 3 #[.slice (some ⟨w.heap.size, 3, none⟩) 64 64, .slice a es.length cap]).run Tryz.prog (w.alloc (.cells (cpZ all es.length) 174)) = .ok (.int .i64 es.length) W2 ∧ Blk W2 w.heap.size 174 (splice (nC all es.length) 3 (es.map fun n => Value.int .i64 n)).toArray ∧ Below w.heap.size w W2 ∧ w.heap.size < W2.heap.size := by
  rw [cpZ_eq]
  have hb : Below w.heap.size w (w.alloc (.cells (nC all es.length).toArray 174)) := (Below.refl _ _).alloc (Nat.le_refl _) _
  have hk : Blk (w.alloc (.cells (nC all es.length).toArray 174)) w.heap.size 174 (nC all es.length).toArray := Blk.new w _ _
  have hs : w.heap.size < (w.alloc (.cells (nC all es.length).toArray 174)).heap.size := by simp
  by_cases h0 : es.length = 0
  · obtain rfl : es = [] := List.eq_nil_of_length_eq_zero h0
    refine ⟨_, run_copy_none _ _ _ _ 3 _ _ _ _ _ _ Tryz.underlying39 int_size rfl, ?_, hb, hs⟩
    exact hk
  · obtain ⟨b, cs, rfl, -, h2, h3⟩ := h (by omega)
    have hr := run_copy_row (P := Tryz.prog) (w.alloc (.cells (nC all es.length).toArray 174)) 39 39 3 3 w.heap.size 3 64 64 ⟨b, 0, none⟩ es.length cap (nC all es.length).toArray 174 (es.map fun n => Value.int .i64 n) Tryz.underlying39 int_size hk (by rw [List.length_map]; exact (Nat.min_eq_left hn).symm)
      (fun j v hj => by
        have hjl : j < es.length := by simpa using (List.getElem?_eq_some_iff.1 hj).1
        have e : ((⟨b, 0, none⟩ : Addr).add j) = ⟨b, j, none⟩ := by unfold Addr.add; split <;> simp_all
        rw [e, Blk.cell (Blk.below h2 hb h2.lt), h3 j hjl, ← hj]
        simp [hjl]) (by simp [nC]; omega) (by simp [Value.oneCell'])
    rw [List.length_map] at hr
    refine ⟨_, hr, ?_, below_setRow hb (Nat.le_refl _) _, by simp [World.setRow]⟩
    have := setRow_heap (w.alloc (.cells (nC all es.length).toArray 174)) w.heap.size (nC all es.length).toArray ((nC all es.length).take 3 ++ (es.map fun n => Value.int .i64 n) ++ (nC all es.length).drop (3 + es.length)).toArray 174 (0, 0) hk
    unfold splice
    rw [List.length_map, ← List.append_assoc]
    exact this
set_option maxRecDepth 16000 in
set_option maxHeartbeats 400000 in
theorem cpnew_ok {B : Nat} (all : Int) (es : List Int) (a : Option Addr) (cap : Nat) (hall : 0 ≤ all ∧ all ≤ 1000) (hn : es.length ≤ 64) (hB : ∀ n ∈ es, 0 ≤ n ∧ n ≤ 1000) (w : World) (h : RowI w B a es) :
    Calls Tryz.prog 40 #[.int .i64 all, .slice a es.length cap] w fun e w' => e = .returned (.tuple #[.pointer (some ⟨w.heap.size, 0, none⟩), .int .i64 0]) ∧ CpAt w' w.heap.size (cp0 all es) ∧ Below w.heap.size w w' ∧ w.heap.size < w'.heap.size := by
  have C1 := Lib.hid (beyond_ok hall w)
  have C2 := Lib.hid (ccontains_ok es a cap hn hB w h)
  obtain ⟨W2, hW2, hk, hb, hs⟩ := cp0_copy all es a cap hn w h
  unfold cpZ at hW2
  rw [cp0_cells all es hn] at hk
  have HK := Lib.hid (show CpAt W2 w.heap.size (cp0 all es) from hk)
  have HB := Lib.hid (And.intro hb hs)
  have hl : decide (64 < es.length) = false := by simp; omega
  have hl2 : decide ((64 : Int) < (es.length : Int)) = false := by simp; omega
  clear hall hn hB h hk hb hs
  go_enter Tryz.func40, Tryz.ntmps40
  go_wp2_with fail
  refine (C1.out).mono ?_
  rintro e_ w2 ⟨rfl, rfl⟩
  go_wp2_with fail
  refine (C2.out).mono ?_
  rintro e_ w2 ⟨rfl, rfl⟩
  go_wp2_with fail
  go_ret2
  exact ⟨rfl, HK.out, HB.out.1, HB.out.2⟩
end Go.Proofs.YtpgckpafjiojfaaGreatDoor.AD
