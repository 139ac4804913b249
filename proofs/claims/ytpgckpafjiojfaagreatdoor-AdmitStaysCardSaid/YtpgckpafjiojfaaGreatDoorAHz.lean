/- The walk of wakemanlaw35.AdmitStays. -/
import Derived.Test.YtpgckpafjiojfaaGreatDoorAHv
import Derived.Test.YtpgckpafjiojfaaGreatDoorAHw
import Derived.Test.YtpgckpafjiojfaaGreatDoorAHy
import Derived.ChangeKeysEq
namespace Go.Proofs.YtpgckpafjiojfaaGreatDoor.AD
open Go Go.RowKit BW
open BK (Bx BoxAt Blk only_refl only_drew only_drewN only_setCell only_trans only_of_below only_alloc below_drewN)
theorem GAt.ea_own {w : World} {L : Ly} {x : Gt} (h : GAt w L x) (h0 : 0 < x.js.length) {i o : Nat} (e : L.ea = some ⟨i, o, none⟩) : ¬ L.own x.js.length i := by
  obtain ⟨b, cs, e', h1, _⟩ := h.each h0
  rw [e] at e'
  injection e' with e'
  injection e' with e'
  subst e'
  rintro (rfl | rfl | rfl | ⟨k, hk, hi⟩)
  · exact blk_ne h1 h.gate (by decide) rfl
  · exact blk_ne h1 h.caps (by decide) rfl
  · exact blk_ne h1 h.lm (by decide) rfl
  · obtain ⟨h2, h3⟩ := h.job k _ (List.getElem?_eq_getElem hk)
    rcases hi with rfl | rfl
    · exact blk_ne h1 h2 (by decide) rfl
    · exact blk_ne h1 h3 (by decide) rfl
/-- A gate and its copy, and the variables of the law. -/
structure StI (B T : Nat) (w0 : World) (cb gb nb wb N : Nat) (cs RV : Array Value) (L M : Ly) (x y : Gt) (now : Int) (W : World) : Prop where
  g : GAt W L x
  h : GAt W M y
  gn : x.js.length = N
  hn : y.js.length = N
  sup : ∀ i, L.sup N i → i < T
  own : ∀ i, L.own N i → B ≤ i
  far : ∀ i, M.own N i → T ≤ i
  fsup : ∀ i, M.sup N i → T ≤ i ∨ ∃ o, L.ea = some ⟨i, o, none⟩
  c : Blk W cb 31 cs
  gv : Blk W gb 33 #[.pointer (some ⟨L.g, 0, none⟩)]
  v : Blk W nb 2 #[.int .i64 now]
  was : Blk W wb 71 RV
  bel : Below B w0 W
  le : B ≤ w0.heap.size ∧ B ≤ T
  pos : 0 < N
section
variable {B T cb gb nb wb N : Nat} {w0 W W' : World} {cs RV : Array Value} {L M : Ly} {x y z : Gt} {now : Int}
theorem StI.below (H : StI B T w0 cb gb nb wb N cs RV L M x y now W) (hb : Below W.heap.size W W') : StI B T w0 cb gb nb wb N cs RV L M x y now W' :=
  ⟨H.g.below hb, H.h.below hb, H.gn, H.hn, H.sup, H.own, H.far, H.fsup, H.c.below hb H.c.lt, H.gv.below hb H.gv.lt, H.v.below hb H.v.lt, H.was.below hb H.was.lt, H.bel.trans (hb.mono (Nat.le_trans H.le.1 H.bel.size)), H.le, H.pos⟩
theorem StI.turnG (H : StI B T w0 cb gb nb wb N cs RV L M x y now W) (hg : GAt W' L z) (ht : Turn (L.own x.js.length) W W') (hn : z.js.length = x.js.length) : StI B T w0 cb gb nb wb N cs RV L M z y now W' := by
  have hk := H.g.keeps ht
  refine ⟨hg, H.h.turn ht (fun i hi ho => ?_), hn.trans H.gn, H.hn, H.sup, H.own, H.far, H.fsup, hk _ _ _ H.c (by decide) (by decide) (by decide) (by decide), hk _ _ _ H.gv (by decide) (by decide) (by decide) (by decide), hk _ _ _ H.v (by decide) (by decide) (by decide) (by decide), hk _ _ _ H.was (by decide) (by decide) (by decide) (by decide), ht.below (fun i ho => H.own i (by rw [← H.gn]; exact ho)) H.bel H.le.1, H.le, H.pos⟩
  rcases H.fsup i (by rw [← H.hn]; exact hi) with h1 | ⟨o, e⟩
  · have := H.sup i (.inl (by rw [← H.gn]; exact ho))
    omega
  · exact H.g.ea_own (by rw [H.gn]; exact H.pos) e ho
theorem StI.turnH (H : StI B T w0 cb gb nb wb N cs RV L M x y now W) (hh : GAt W' M z) (ht : Turn (M.own y.js.length) W W') (hn : z.js.length = y.js.length) : StI B T w0 cb gb nb wb N cs RV L M x z now W' := by
  have hk := H.h.keeps ht
  refine ⟨H.g.turn ht (fun i hi ho => ?_), hh, H.gn, hn.trans H.hn, H.sup, H.own, H.far, H.fsup, hk _ _ _ H.c (by decide) (by decide) (by decide) (by decide), hk _ _ _ H.gv (by decide) (by decide) (by decide) (by decide), hk _ _ _ H.v (by decide) (by decide) (by decide) (by decide), hk _ _ _ H.was (by decide) (by decide) (by decide) (by decide), ht.below (fun i ho => Nat.le_trans H.le.2 (H.far i (by rw [← H.hn]; exact ho))) H.bel H.le.1, H.le, H.pos⟩
  have h1 := H.sup i (by rw [← H.gn]; exact hi)
  have h2 := H.far i (by rw [← H.hn]; exact ho)
  omega
theorem st_why (H : StI B T w0 cb gb nb wb N cs RV L M x y now W) (job t : Int) {n er : Int} (he : x.Why job t = (n, er)) : Calls Tryz.prog 19 #[.pointer (some ⟨L.g, 0, none⟩), .int .i64 job, .int .i64 t] W fun e w' => e = .returned (.tuple #[.int .i64 n, .int .i64 er]) ∧ StI B T w0 cb gb nb wb N cs RV L M x y now w' :=
  (gwhy_ok H.g job t).mono fun e w' ⟨h1, h2⟩ => by rw [he] at h1; exact ⟨h1, H.below h2⟩
theorem st_take (H : StI B T w0 cb gb nb wb N cs RV L M x y now W) (job t : Int) {er : Int} (he : x.take job t = (er, x)) : Calls Tryz.prog 13 #[.pointer (some ⟨L.g, 0, none⟩), .int .i64 job, .int .i64 t] W fun e w' => e = .returned (.int .i64 er) ∧ StI B T w0 cb gb nb wb N cs RV L M x y now w' :=
  (gtake_ok H.g job t).mono fun e w' ⟨h1, h2, h3⟩ => by rw [he] at h1 h2; exact ⟨h1, H.turnG h2 h3 rfl⟩
theorem st_trip (H : StI B T w0 cb gb nb wb N cs RV L M x y now W) (job t : Int) {er : Int} (he : x.trip job t = (er, x)) : Calls Tryz.prog 11 #[.pointer (some ⟨L.g, 0, none⟩), .int .i64 job, .int .i64 t] W fun e w' => e = .returned (.int .i64 er) ∧ StI B T w0 cb gb nb wb N cs RV L M x y now w' :=
  (gtrip_ok H.g job t).mono fun e w' ⟨h1, h2, h3⟩ => by rw [he] at h1 h2; exact ⟨h1, H.turnG h2 h3 rfl⟩
theorem st_reset (H : StI B T w0 cb gb nb wb N cs RV L M x y now W) (job t : Int) {er : Int} (he : x.reset job t = (er, x)) : Calls Tryz.prog 12 #[.pointer (some ⟨L.g, 0, none⟩), .int .i64 job, .int .i64 t] W fun e w' => e = .returned (.int .i64 er) ∧ StI B T w0 cb gb nb wb N cs RV L M x y now w' :=
  (greset_ok H.g job t).mono fun e w' ⟨h1, h2, h3⟩ => by rw [he] at h1 h2; exact ⟨h1, H.turnG h2 h3 rfl⟩
theorem st_give (H : StI B T w0 cb gb nb wb N cs RV L M x y now W) (job : Int) (ok : Bool) (t : Int) {ev er : Int} (he : x.give job ok t = (ev, er, x)) : Calls Tryz.prog 10 #[.pointer (some ⟨L.g, 0, none⟩), .int .i64 job, .bool ok, .int .i64 t] W fun e w' => e = .returned (.tuple #[.int .i64 ev, .int .i64 er]) ∧ StI B T w0 cb gb nb wb N cs RV L M x y now w' :=
  (ggive_ok H.g job ok t).mono fun e w' ⟨h1, h2, h3⟩ => by rw [he] at h1 h2; exact ⟨h1, H.turnG h2 h3 rfl⟩
theorem st_takeH (H : StI B T w0 cb gb nb wb N cs RV L M x y now W) (job t : Int) : Calls Tryz.prog 13 #[.pointer (some ⟨M.g, 0, none⟩), .int .i64 job, .int .i64 t] W fun e w' => ∃ er z, e = .returned (.int .i64 er) ∧ StI B T w0 cb gb nb wb N cs RV L M x z now w' :=
  (gtake_ok H.h job t).mono fun _ _ ⟨h1, h2, h3⟩ => ⟨_, _, h1, H.turnH h2 h3 Gt.take_len⟩
theorem st_tripH (H : StI B T w0 cb gb nb wb N cs RV L M x y now W) (job t : Int) : Calls Tryz.prog 11 #[.pointer (some ⟨M.g, 0, none⟩), .int .i64 job, .int .i64 t] W fun e w' => ∃ er z, e = .returned (.int .i64 er) ∧ StI B T w0 cb gb nb wb N cs RV L M x z now w' :=
  (gtrip_ok H.h job t).mono fun _ _ ⟨h1, h2, h3⟩ => ⟨_, _, h1, H.turnH h2 h3 Gt.switch_len⟩
theorem st_giveH (H : StI B T w0 cb gb nb wb N cs RV L M x y now W) (job : Int) (ok : Bool) (t : Int) : Calls Tryz.prog 10 #[.pointer (some ⟨M.g, 0, none⟩), .int .i64 job, .bool ok, .int .i64 t] W fun e w' => ∃ ev er z, e = .returned (.tuple #[.int .i64 ev, .int .i64 er]) ∧ StI B T w0 cb gb nb wb N cs RV L M x z now w' :=
  (ggive_ok H.h job ok t).mono fun _ _ ⟨h1, h2, h3⟩ => ⟨_, _, _, h1, H.turnH h2 h3 Gt.give_len⟩
theorem StI.sh (H : StI B T w0 cb gb nb wb N cs RV L M x y now W) : ShI B w0 W cb gb nb N cs L x now W :=
  ⟨⟨H.g, H.bel, fun i hi => H.own i (by rw [← H.gn]; exact hi), H.le.1⟩, H.c, H.gv, H.v, H.gn, Below.refl _ _⟩
end
/-- What the operations of the last region have yielded. -/
structure R25 (S : World → Prop) (FV RV : Value) (listed : Array Bool) (v : Nat → Value) (W : World) : Prop where
  f : listed[0]? = some true → v 0 = FV
  a : listed[1]? = some true → v 1 = RV
  b : listed[2]? = some true → v 2 = RV
  s : S W
theorem R25.step {S : World → Prop} {FV RV : Value} {listed : Array Bool} {v : Nat → Value} {W W' : World} (h : R25 S FV RV listed v W) (i : Nat) {u : Value} (hs : S W') (h0 : i = 0 → u = FV) (h1 : i = 1 → u = RV) (h2 : i = 2 → u = RV) : R25 S FV RV (listed.setIfInBounds i true) (updC v i u) W' := by
  refine ⟨fun hz => ?_, fun hz => ?_, fun hz => ?_, hs⟩
  · by_cases e : 0 = i
    · subst e; rw [updC_eq]; exact h0 rfl
    · rw [updC_ne e]; exact h.f ((set_at 0 hz).resolve_left e)
  · by_cases e : 1 = i
    · subst e; rw [updC_eq]; exact h1 rfl
    · rw [updC_ne e]; exact h.a ((set_at 1 hz).resolve_left e)
  · by_cases e : 2 = i
    · subst e; rw [updC_eq]; exact h2 rfl
    · rw [updC_ne e]; exact h.b ((set_at 2 hz).resolve_left e)
theorem nx_small {x : Gt} {now : Int} (hi : x.Inv) (h : Sm x now) (h0 : 0 ≤ now) (h9 : now ≤ 1000) : ∀ i : Nat, i < x.js.length → 0 ≤ (x.next i now).1 ∧ (x.next i now).1 ≤ 253402300799 := fun i hl => by
  obtain ⟨t, is, he, hp⟩ := nx_law hi h h0 h9 (k := i) (by omega)
  rw [he]
  cases is
  · have := (hp.no rfl).1
    show 0 ≤ t ∧ t ≤ 253402300799
    omega
  · obtain ⟨h1, h2, -⟩ := hp.yes rfl
    show 0 ≤ t ∧ t ≤ 253402300799
    omega
theorem eq_cells (d : Nat) (xs : Array Value) (w : World) : ∀ (is : List Nat), (∀ i ∈ is, ∃ a, xs[i * Tryz.prog.cellsOf 2]? = some (.int .i64 a)) → (Op.eqItems (d + 1) 2 (Tryz.prog.cellsOf 2) xs xs is).run Tryz.prog w = .ok true w
  | [], _ => rfl
  | i :: is, h => by
    obtain ⟨a, ha⟩ := h i List.mem_cons_self
    have ih := eq_cells d xs w is fun j hj => h j (List.mem_cons_of_mem _ hj)
    simp only [Op.eqItems, Sem.run_bind, run_part_plain w (show Tryz.prog.plainKey 2 = true by kernel_rfl) ha, Result.andThen_ok, run_equalIn_int w d 2 .i64 .i64 a a (show Tryz.prog.underlying 2 = some (.int .i64) by kernel_rfl), beq_self_eq_true]
    exact ih
theorem part_row (xs : Array Value) (off : Nat) (w : World) : (part 70 xs off).run Tryz.prog w = .ok (.agg (xs.extract off (off + Tryz.prog.cellsOf 70))) w := by
  simp [part, isAgg, run_underlying (show Tryz.prog.underlying 70 = some (.array 5 2) by kernel_rfl)]
  rw [show Tryz.prog.cellsOf 70 = 5 by kernel_rfl]
theorem eq_rows (d : Nat) (xs : Array Value) (hx : ∀ j, j < 20 → ∃ a, xs[j]? = some (.int .i64 a)) (w : World) : ∀ (is : List Nat), (∀ i ∈ is, i < 4) → (Op.eqItems (d + 2) 70 (Tryz.prog.cellsOf 70) xs xs is).run Tryz.prog w = .ok true w
  | [], _ => rfl
  | i :: is, h => by
    have hi := h i List.mem_cons_self
    have ih := eq_rows d xs hx w is fun j hj => h j (List.mem_cons_of_mem _ hj)
    have h5 : Tryz.prog.cellsOf 70 = 5 := by kernel_rfl
    have h1 : Tryz.prog.cellsOf 2 = 1 := by kernel_rfl
    obtain ⟨ii, hii⟩ := info_of_underlying (show Tryz.prog.underlying 2 = some (.int .i64) by kernel_rfl)
    have hsz : 20 ≤ xs.size := by
      obtain ⟨a, ha⟩ := hx 19 (by decide)
      exact (Array.getElem?_eq_some_iff.1 ha).1
    have he : (Op.equalIn (d + 2) 70 (.agg (xs.extract (i * Tryz.prog.cellsOf 70) (i * Tryz.prog.cellsOf 70 + Tryz.prog.cellsOf 70))) (.agg (xs.extract (i * Tryz.prog.cellsOf 70) (i * Tryz.prog.cellsOf 70 + Tryz.prog.cellsOf 70)))).run Tryz.prog w = .ok true w := by
      rw [show d + 2 = (d + 1) + 1 from rfl, run_equalIn_array w (d + 1) _ _ (show Tryz.prog.underlying 70 = some (.array 5 2) by kernel_rfl) hii]
      refine eq_cells d _ w _ fun j hj => ?_
      have hj : j < 5 := List.mem_range.1 hj
      obtain ⟨a, ha⟩ := hx (i * 5 + j) (by omega)
      refine ⟨a, ?_⟩
      rw [h5, h1, Nat.mul_one, Array.getElem?_extract, if_pos (by omega)]
      exact ha
    simp only [Op.eqItems, Sem.run_bind, part_row, Result.andThen_ok, he]
    exact ih
theorem out_eq (x : Gt) (now : Int) (d : Nat) (w : World) : (binOp .eql 71 (.agg (outA x now d)) (.agg (outA x now d))).run Tryz.prog w = .ok (.bool true) w := by
  obtain ⟨ii, hii⟩ := info_of_underlying (show Tryz.prog.underlying 70 = some (.array 5 2) by kernel_rfl)
  have hx : ∀ j, j < 20 → ∃ a, (outA x now d)[j]? = some (.int .i64 a) := fun j hj => by
    match j, hj with
    | 0, _ => exact ⟨_, rfl⟩
    | 1, _ => exact ⟨_, rfl⟩
    | 2, _ => exact ⟨_, rfl⟩
    | 3, _ => exact ⟨_, rfl⟩
    | 4, _ => exact ⟨_, rfl⟩
    | 5, _ => exact ⟨_, rfl⟩
    | 6, _ => exact ⟨_, rfl⟩
    | 7, _ => exact ⟨_, rfl⟩
    | 8, _ => exact ⟨_, rfl⟩
    | 9, _ => exact ⟨_, rfl⟩
    | 10, _ => exact ⟨_, rfl⟩
    | 11, _ => exact ⟨_, rfl⟩
    | 12, _ => exact ⟨_, rfl⟩
    | 13, _ => exact ⟨_, rfl⟩
    | 14, _ => exact ⟨_, rfl⟩
    | 15, _ => exact ⟨_, rfl⟩
    | 16, _ => exact ⟨_, rfl⟩
    | 17, _ => exact ⟨_, rfl⟩
    | 18, _ => exact ⟨_, rfl⟩
    | 19, _ => exact ⟨_, rfl⟩
    | j + 20, hj => omega
  rw [run_eql_struct, run_equalIn_array w 9999 _ _ (show Tryz.prog.underlying 71 = some (.array 4 70) by kernel_rfl) hii, eq_rows 9997 _ hx w _ fun i hi => List.mem_range.1 hi]
  rfl
set_option maxRecDepth 100000 in
set_option maxHeartbeats 4000000 in
theorem stays_walk (a : Option Addr) (rs : List Rl) (n c lim tau most : Nat) (ma : Option Addr) (ms : List Mv) (mn mc : Nat) (job at_ : Int) (hn : rs.length = n) (hnc : n ≤ c) (h9 : n ≤ 9223372036854775807) (h1 : lim < 256) (h2 : tau < 256) (h3 : most < 256) (hmn : ms.length = mn) (hmc : mn ≤ mc) (hm9 : mn ≤ 9223372036854775807) (w : World) (hR : RulesAt w a rs) (hM : MovesAt w ma ms) (hT : SpTab w) (hTab : Tab w) :
    Calls Tryz.prog 4 #[.slice a n c, .int .u8 lim, .int .u8 tau, .int .u8 most, .slice ma mn mc, .int .i64 job, .int .i64 at_] w fun e w' => e = .returned (.bool true) ∧ Below w.heap.size w w' := by
  have TT := Lib.hid (fun W (hb : Below w.heap.size w W) => And.intro (hT.below hb) (tab_below hTab hb (tab_lt hTab)))
  have HM := Lib.hid (fun W (hb : Below w.heap.size w W) => MovesAt.below hM hb)
  have HMN := Lib.hid hmn
  have MD := Lib.hid (made_any rs a n c hn lim tau most h1 h2 h3 h9 hnc w hR)
  clear hT hTab hM hR hn hmn
  go_enter Tryz.func4, Tryz.ntmps4
  go_wp2_with fail
  refine (MD.out).mono ?_
  rintro e_ w1 ⟨qs, m, g, c', hq, hm0, hm4, rfl, ho, hb⟩
  have O1 := Lib.hid ho
  have B1 := Lib.hid hb
  have HQ := Lib.hid hq
  clear ho hb MD hq
  go_upto_region 2 with fail
  obtain ⟨W2, hW2⟩ : ∃ W2, W2 = w1.alloc (.cells #[.int .i64 (1 + (most : Int) % 8), .int .i64 1, .int .i64 0, .int .i64 1, .int .u64 0, .int .i64 (smT lim), .int .i64 (smA lim tau), .slice (some ⟨g, 0, none⟩) m c'] 31) := ⟨_, rfl⟩
  have hb2 : Below w1.heap.size w1 W2 := by rw [hW2]; exact (Below.refl _ _).alloc (Nat.le_refl _) _
  have O2 := Lib.hid (own_below O1.out hb2)
  have C2 : Hid (Blk W2 w1.heap.size 31 #[.int .i64 (1 + (most : Int) % 8), .int .i64 1, .int .i64 0, .int .i64 1, .int .u64 0, .int .i64 (smT lim), .int .i64 (smA lim tau), .slice (some ⟨g, 0, none⟩) m c']) := Lib.hid (by rw [hW2]; exact Blk.new _ _ _)
  have B2 := Lib.hid (B1.out.trans (hb2.mono B1.out.size))
  rw [← hW2]
  generalize w1.heap.size = cb at *
  clear hW2 hb2 O1 B1
  have k0 : W2.cell? ⟨cb, 0, none⟩ = some (.int .i64 (1 + (most : Int) % 8)) := C2.out.cell 0
  have k1 : W2.cell? ⟨cb, 1, none⟩ = some (.int .i64 1) := C2.out.cell 1
  have k2 : W2.cell? ⟨cb, 2, none⟩ = some (.int .i64 0) := C2.out.cell 2
  have k3 : W2.cell? ⟨cb, 3, none⟩ = some (.int .i64 1) := C2.out.cell 3
  have k4 : W2.cell? ⟨cb, 4, none⟩ = some (.int .u64 0) := C2.out.cell 4
  have k5 : W2.cell? ⟨cb, 5, none⟩ = some (.int .i64 (smT lim)) := C2.out.cell 5
  have k6 : W2.cell? ⟨cb, 6, none⟩ = some (.int .i64 (smA lim tau)) := C2.out.cell 6
  have k7 : W2.cell? ⟨cb, 7, none⟩ = some (.slice (some ⟨g, 0, none⟩) m c') := C2.out.cell 7
  have AF := Lib.hid (after_ok (madeG lim tau most) (madeFrom 0 qs) (some ⟨g, 0, none⟩) m c' hm0 hm4 (by rw [madeFrom_len]; exact HQ.out) ma ms mn mc HMN.out hmc hm9 W2 (made_arg O2.out HQ.out hm4 (TT.out W2 B2.out).1 (TT.out W2 B2.out).2) (made_cfok qs (by rw [HQ.out]; exact hm4) lim tau most) (sm_made qs lim tau most) (HM.out W2 B2.out))
  go_wp2_with fail
  refine (AF.out).mono ?_
  rintro e_ w3 ⟨Y, x, now, rfl, hg, hs, hxn, hlo, hhi⟩
  have HSM := Lib.hid hs
  have I3 : Hid (AfI w.heap.size w cb m #[.int .i64 (1 + (most : Int) % 8), .int .i64 1, .int .i64 0, .int .i64 1, .int .u64 0, .int .i64 (smT lim), .int .i64 (smA lim tau), .slice (some ⟨g, 0, none⟩) m c'] Y x now w3) := Lib.hid ⟨⟨hg.g, B2.out.trans (hg.bel.mono B2.out.size), fun i hi => Nat.le_trans B2.out.size (hg.own i hi), Nat.le_refl _⟩, C2.out.below hg.bel C2.out.lt, hs, hxn⟩
  clear hg hs hxn AF C2 B2 O2 HQ HM HMN k0 k1 k2 k3 k4 k5 k6 k7
  go_upto_region 6 with fail
  obtain ⟨W5, hW5⟩ : ∃ W5, W5 = (w3.alloc (.cells #[.pointer (some ⟨Y.g, 0, none⟩)] 33)).alloc (.cells #[.int .i64 now] 2) := ⟨_, rfl⟩
  have hb5 : Below w3.heap.size w3 W5 := by rw [hW5]; exact two_boxes w3 _ _
  have S5 : Hid (ShI w.heap.size w W5 cb w3.heap.size (w3.heap.size + 1) m #[.int .i64 (1 + (most : Int) % 8), .int .i64 1, .int .i64 0, .int .i64 1, .int .u64 0, .int .i64 (smT lim), .int .i64 (smA lim tau), .slice (some ⟨g, 0, none⟩) m c'] Y x now W5) := Lib.hid ⟨I3.out.h.below hb5, I3.out.c.below hb5 I3.out.c.lt, by rw [hW5]; exact (Blk.new _ _ _).alloc _, by rw [hW5]; exact blk_newAt (by simp), I3.out.n, Below.refl _ _⟩
  have HNX : Hid (∀ i : Nat, i < m → 0 ≤ (x.next i now).1 ∧ (x.next i now).1 ≤ 253402300799) := Lib.hid (fun i hi => nx_small I3.out.h.g.inv HSM.out (by omega) (by omega) i (by rw [I3.out.n]; exact hi))
  rw [← hW5]
  generalize w3.heap.size = gb at *
  obtain ⟨nb, hnb⟩ : ∃ nb, nb = gb + 1 := ⟨_, rfl⟩
  rw [← hnb] at S5 ⊢
  clear hW5 hb5 I3 hnb
  have HSH := Lib.hid (fun W (h : ShI w.heap.size w W cb gb nb m #[.int .i64 (1 + (most : Int) % 8), .int .i64 1, .int .i64 0, .int .i64 1, .int .u64 0, .int .i64 (smT lim), .int .i64 (smA lim tau), .slice (some ⟨g, 0, none⟩) m c'] Y x now W) => show_ok (madeG lim tau most) (some ⟨g, 0, none⟩) m c' hm4 w.heap.size w W cb gb nb Y x now HNX.out W h)
  go_wp2_with fail
  refine (HSH.out W5 S5.out).mono ?_
  rintro e_ w6 ⟨rfl, h⟩
  have S6 := Lib.hid h.from
  clear h S5
  have ho1 : (outA x now m).all (·.oneCell') = true := by unfold outA shc; simp [Value.oneCell']
  have hsz : (Tryz.prog.info? 71).map (·.size) = some (outA x now m).size := (show _ = some 20 by kernel_rfl)
  have hs2 : (#[.int .i64 0, .int .i64 0, .int .i64 0, .int .i64 0, .int .i64 0, .int .i64 0, .int .i64 0, .int .i64 0, .int .i64 0, .int .i64 0, .int .i64 0, .int .i64 0, .int .i64 0, .int .i64 0, .int .i64 0, .int .i64 0, .int .i64 0, .int .i64 0, .int .i64 0, .int .i64 0] : Array Value).size = (outA x now m).size := rfl
  have HEQ := Lib.hid (out_eq x now m)
  generalize hRV : outA x now m = RV at ho1 hsz hs2 HEQ HSH ⊢
  have HRV := Lib.hid hRV
  clear hRV
  have ST0 := run_storeVar_row (P := Tryz.prog) (w6.alloc (.cells #[.int .i64 0, .int .i64 0, .int .i64 0, .int .i64 0, .int .i64 0, .int .i64 0, .int .i64 0, .int .i64 0, .int .i64 0, .int .i64 0, .int .i64 0, .int .i64 0, .int .i64 0, .int .i64 0, .int .i64 0, .int .i64 0, .int .i64 0, .int .i64 0, .int .i64 0, .int .i64 0] 71)) w6.heap.size 71 71 _ RV (Blk.new _ _ _) hsz hs2 ho1
  obtain ⟨V, hV⟩ : ∃ V, V = (w6.alloc (.cells #[.int .i64 0, .int .i64 0, .int .i64 0, .int .i64 0, .int .i64 0, .int .i64 0, .int .i64 0, .int .i64 0, .int .i64 0, .int .i64 0, .int .i64 0, .int .i64 0, .int .i64 0, .int .i64 0, .int .i64 0, .int .i64 0, .int .i64 0, .int .i64 0, .int .i64 0, .int .i64 0] 71)).setRow w6.heap.size RV := ⟨_, rfl⟩
  rw [← hV] at ST0
  have ST := Lib.hid ST0
  have VB : Hid (Blk V w6.heap.size 71 RV) := Lib.hid (by rw [hV]; exact setRow_heap _ _ _ _ _ _ (Blk.new _ _ _))
  have S7 : Hid (ShI w.heap.size w w6 cb gb nb m #[.int .i64 (1 + (most : Int) % 8), .int .i64 1, .int .i64 0, .int .i64 1, .int .u64 0, .int .i64 (smT lim), .int .i64 (smA lim tau), .slice (some ⟨g, 0, none⟩) m c'] Y x now V) := Lib.hid (by
    have hbV : Below w6.heap.size w6 V := by rw [hV]; exact below_setRow ((Below.refl _ _).alloc (Nat.le_refl _) _) (Nat.le_refl _) _
    exact S6.out.below hbV)
  have HSZ := Lib.hid hsz
  clear ho1 hsz hs2 ST0 hV S6
  go_upto_region 7 with (refine wpList_store_by rfl 71 (.tmp 20) (.tmp 45) rfl w6.heap.size 0 (.agg RV) V rfl rfl ST.out ?_)
  generalize w6.heap.size = wb at *
  clear ST
  have a7 : V.cell? ⟨gb, 0, none⟩ = some (.pointer (some ⟨Y.g, 0, none⟩)) := S7.out.g.cell 0
  go_wp2_with fail
  refine (gcopy_ok S7.out.h.g).mono ?_
  rintro e_ w8 ⟨M, rfl, hg, ho, hsu, hb⟩
  obtain ⟨T, hT_⟩ : ∃ T, T = V.heap.size := ⟨_, rfl⟩
  have I9 : Hid (StI w.heap.size T w cb gb nb wb m #[.int .i64 (1 + (most : Int) % 8), .int .i64 1, .int .i64 0, .int .i64 1, .int .u64 0, .int .i64 (smT lim), .int .i64 (smA lim tau), .slice (some ⟨g, 0, none⟩) m c'] RV Y M x x now w8) := Lib.hid (by
    have h1 := S7.out.h.bel.size
    rw [S7.out.n] at ho hsu
    exact ⟨S7.out.h.g.below hb, hg, S7.out.n, S7.out.n, fun i hi => by rw [hT_]; exact S7.out.h.g.lt (by rw [S7.out.n]; exact hi), fun i hi => S7.out.h.own i (by rw [S7.out.n]; exact hi), fun i hi => by rw [hT_]; exact ho i hi, fun i hi => by rw [hT_]; exact hsu i hi, S7.out.c.below hb S7.out.c.lt, S7.out.g.below hb S7.out.g.lt, S7.out.v.below hb S7.out.v.lt, VB.out.below hb VB.out.lt, S7.out.h.bel.trans (hb.mono h1), ⟨Nat.le_refl _, by omega⟩, hm0⟩)
  obtain ⟨SS, hSS⟩ : ∃ SS : World → Prop, SS = fun W => ShI w.heap.size w W cb gb nb m #[.int .i64 (1 + (most : Int) % 8), .int .i64 1, .int .i64 0, .int .i64 1, .int .u64 0, .int .i64 (smT lim), .int .i64 (smA lim tau), .slice (some ⟨g, 0, none⟩) m c'] Y x now W ∧ Blk W wb 71 RV := ⟨_, rfl⟩
  have HSS : Hid (∀ W W', SS W → Below W.heap.size W W' → SS W') := Lib.hid (fun W W' h hb => by rw [hSS] at h ⊢; exact ⟨(h.1.below hb).from, h.2.below hb h.2.lt⟩)
  have HSI : Hid (∀ W, ShI w.heap.size w W cb gb nb m #[.int .i64 (1 + (most : Int) % 8), .int .i64 1, .int .i64 0, .int .i64 1, .int .u64 0, .int .i64 (smT lim), .int .i64 (smA lim tau), .slice (some ⟨g, 0, none⟩) m c'] Y x now W → Blk W wb 71 RV → SS W) := Lib.hid (fun W h1 h2 => by rw [hSS]; exact ⟨h1, h2⟩)
  have HSW : Hid (∀ W, SS W → Calls Tryz.prog 18 #[.pointer (some ⟨cb, 0, none⟩), .pointer (some ⟨gb, 0, none⟩), .pointer (some ⟨nb, 0, none⟩)] W fun e w' => e = .returned (.agg RV) ∧ SS w') := Lib.hid (fun W h => by
    rw [hSS] at h ⊢
    refine (HSH.out W h.1).mono ?_
    rintro e_ W' ⟨rfl, h2⟩
    exact ⟨rfl, h2.from, h.2.below h2.lo h.2.lt⟩)
  have HLD : Hid (∀ W, SS W → (loadVar 71 ⟨wb, 0, none⟩).run Tryz.prog W = .ok (.agg RV) W) := Lib.hid (fun W h => by
    rw [hSS] at h
    exact run_loadVar_row (P := Tryz.prog) W wb 71 71 RV (0, 0) _ h.2 Tryz.underlying71 rfl HSZ.out)
  have HWK : Hid (∀ W, SS W → Calls Tryz.prog 16 #[] W fun e w' => e = .returned (.bool true) ∧ Below w.heap.size w w') := Lib.hid (fun W h => by
    rw [hSS] at h
    have hb := h.1.h.bel
    refine (aworks_ok _ (TT.out _ hb).1 (TT.out _ hb).2).mono ?_
    rintro e_ W' ⟨rfl, h2⟩
    exact ⟨rfl, hb.trans (h2.mono hb.size)⟩)
  obtain ⟨FV, hFV⟩ : ∃ FV : Value, Value.func (.func 18) #[] #[.pointer (some ⟨cb, 0, none⟩), .pointer (some ⟨gb, 0, none⟩), .pointer (some ⟨nb, 0, none⟩)] = FV := ⟨_, rfl⟩
  have HFV := Lib.hid hFV
  clear hg ho hsu hb hT_ S7 VB a7 hSS hFV HSH HSZ TT
  have k9 : w8.cell? ⟨cb, 7, none⟩ = some (.slice (some ⟨g, 0, none⟩) m c') := I9.out.c.cell 7
  go_wp2_with fail
  go_loopw [53] (fun s53 wr => ∃ k : Nat, k ≤ m ∧ s53 = .int .i64 k ∧ ∃ y, StI w.heap.size T w cb gb nb wb m #[.int .i64 (1 + (most : Int) % 8), .int .i64 1, .int .i64 0, .int .i64 1, .int .u64 0, .int .i64 (smT lim), .int .i64 (smA lim tau), .slice (some ⟨g, 0, none⟩) m c'] RV Y M x y now wr) (fun s53 _ => m - intA s53)
  case atStart => exact ⟨0, Nat.zero_le _, rfl, _, I9.out⟩
  case round =>
    obtain ⟨k, hk, rfl, y, hI⟩ := hrel
    have HI := Lib.hid hI
    clear hI I9 k9
    have a0 : wr.cell? ⟨gb, 0, none⟩ = some (.pointer (some ⟨Y.g, 0, none⟩)) := HI.out.gv.cell 0
    have b0 : wr.cell? ⟨nb, 0, none⟩ = some (.int .i64 now) := HI.out.v.cell 0
    have k7 : wr.cell? ⟨cb, 7, none⟩ = some (.slice (some ⟨g, 0, none⟩) m c') := HI.out.c.cell 7
    rcases Nat.lt_or_ge k m with hlt | hge
    · obtain ⟨n, hn⟩ : ∃ n, x.Why k now = (n, 0) := by
        have hl : k < x.js.length := by rw [HI.out.gn]; exact hlt
        exact ⟨_, why_of (j := x.js[k]) (sm_call HSM.out (Int.le_refl _) (by omega) (by omega) (by omega)) (by unfold Gt.job; rw [Int.toNat_natCast]; exact List.getElem?_eq_getElem hl)⟩
      have HNN := Lib.hid hn
      clear hn k7
      go_wp2_with fail
      refine (st_takeH HI.out k (now + 3)).mono ?_
      rintro e_ X1 ⟨er, z1, rfl, h⟩
      have J1 := Lib.hid h
      clear h HI a0 b0
      have a1 : X1.cell? ⟨gb, 0, none⟩ = some (.pointer (some ⟨Y.g, 0, none⟩)) := J1.out.gv.cell 0
      have b1 : X1.cell? ⟨nb, 0, none⟩ = some (.int .i64 now) := J1.out.v.cell 0
      go_wp2_with fail
      refine (st_tripH J1.out k (now + 3)).mono ?_
      rintro e_ X2 ⟨er2, z2, rfl, h⟩
      have J2 := Lib.hid h
      clear h J1 a1 b1
      have a2 : X2.cell? ⟨gb, 0, none⟩ = some (.pointer (some ⟨Y.g, 0, none⟩)) := J2.out.gv.cell 0
      have b2 : X2.cell? ⟨nb, 0, none⟩ = some (.int .i64 now) := J2.out.v.cell 0
      go_wp2_with fail
      refine (st_giveH J2.out k false (now + 3)).mono ?_
      rintro e_ X3 ⟨ev3, er3, z3, rfl, h⟩
      have J3 := Lib.hid h
      clear h J2 a2 b2
      have a3 : X3.cell? ⟨gb, 0, none⟩ = some (.pointer (some ⟨Y.g, 0, none⟩)) := J3.out.gv.cell 0
      have b3 : X3.cell? ⟨nb, 0, none⟩ = some (.int .i64 now) := J3.out.v.cell 0
      go_wp2_with fail
      refine (st_why J3.out k now HNN.out).mono ?_
      rintro e_ X4 ⟨rfl, h⟩
      have J4 := Lib.hid h
      clear h J3 a3 b3
      have a4 : X4.cell? ⟨gb, 0, none⟩ = some (.pointer (some ⟨Y.g, 0, none⟩)) := J4.out.gv.cell 0
      have b4 : X4.cell? ⟨nb, 0, none⟩ = some (.int .i64 now) := J4.out.v.cell 0
      cases hz : (n == 0)
      · have hz2 : (n != 0) = true := by rw [bne, hz]; rfl
        have hnz : n ≠ 0 := by rw [beq_eq_false_iff_ne] at hz; exact hz
        have HT := Lib.hid (take_why HNN.out hnz)
        clear hnz
        go_wp2_with fail
        refine (st_take J4.out k now HT.out).mono ?_
        rintro e_ X5 ⟨rfl, h⟩
        have J5 := Lib.hid h
        clear h J4 a4 b4
        go_wp2_with fail
        refine ⟨⟨k + 1, by omega, by go_num, _, J5.out⟩, ?_⟩
        simp [intA]; omega
      · have hz2 : (n != 0) = false := by rw [bne, hz]; rfl
        go_wp2_with fail
        refine ⟨⟨k + 1, by omega, by go_num, _, J4.out⟩, ?_⟩
        simp [intA]; omega
    · obtain rfl : m = k := by omega
      by_cases hj0 : job < 0
      · have q1 : decide (job < 0) = true := decide_eq_true (by omega)
        obtain ⟨e, hce, he0⟩ := call_out (x := x) (job := job) (t := at_) (by rw [HI.out.gn]; omega)
        have HCE := Lib.hid hce
        have q0 : (e == 0) = false := by rw [beq_eq_false_iff_ne]; exact he0
        have HE0 := Lib.hid he0
        clear hce he0
        go_wp2_with fail
        refine (st_why HI.out job at_ (no_why HCE.out HE0.out)).mono ?_
        rintro e_ X1 ⟨rfl, h⟩
        have J1 := Lib.hid h
        clear h HI a0 b0 k7
        have a1 : X1.cell? ⟨gb, 0, none⟩ = some (.pointer (some ⟨Y.g, 0, none⟩)) := J1.out.gv.cell 0
        have b1 : X1.cell? ⟨nb, 0, none⟩ = some (.int .i64 now) := J1.out.v.cell 0

        go_wp2_with fail
        refine (st_give J1.out job true at_ (no_give HCE.out HE0.out true)).mono ?_
        rintro e_ X2 ⟨rfl, h⟩
        have J2 := Lib.hid h
        clear h J1 a1 b1
        have a2 : X2.cell? ⟨gb, 0, none⟩ = some (.pointer (some ⟨Y.g, 0, none⟩)) := J2.out.gv.cell 0
        have b2 : X2.cell? ⟨nb, 0, none⟩ = some (.int .i64 now) := J2.out.v.cell 0

        go_wp2_with fail
        refine (st_take J2.out job at_ (no_take HCE.out HE0.out)).mono ?_
        rintro e_ X3 ⟨rfl, h⟩
        have J3 := Lib.hid h
        clear h J2 a2 b2
        have a3 : X3.cell? ⟨gb, 0, none⟩ = some (.pointer (some ⟨Y.g, 0, none⟩)) := J3.out.gv.cell 0
        have b3 : X3.cell? ⟨nb, 0, none⟩ = some (.int .i64 now) := J3.out.v.cell 0

        go_wp2_with fail
        refine (st_trip J3.out job at_ (no_trip HCE.out HE0.out)).mono ?_
        rintro e_ X4 ⟨rfl, h⟩
        have J4 := Lib.hid h
        clear h J3 a3 b3
        have a4 : X4.cell? ⟨gb, 0, none⟩ = some (.pointer (some ⟨Y.g, 0, none⟩)) := J4.out.gv.cell 0
        have b4 : X4.cell? ⟨nb, 0, none⟩ = some (.int .i64 now) := J4.out.v.cell 0

        go_wp2_with fail
        refine (st_reset J4.out job at_ (no_reset HCE.out HE0.out)).mono ?_
        rintro e_ X5 ⟨rfl, h⟩
        have J5 := Lib.hid h
        clear h J4 a4 b4 HCE HE0 q0
        go_upto_region 25 with fail
        have SX : Hid (SS X5) := Lib.hid (HSI.out _ J5.out.sh J5.out.was)
        clear J5
        refine wp_region_put_tail _ 3 _ (R := R25 SS FV (.agg RV)) (by rfl) (by kernel_rfl) (by kernel_rfl) (by kernel_rfl) (by kernel_rfl) (by kernel_rfl) (by kernel_rfl) (by kernel_rfl) (by kernel_rfl) ?_ ?_ ?_
        · intro v
          exact ⟨fun hz => (rep_not hz).elim, fun hz => (rep_not hz).elim, fun hz => (rep_not hz).elim, HSS.out _ _ SX.out (Below.refl _ _).drew⟩
        · intro Q' K_ listed v wx i o hsz ho hli ha hR hK
          have HV := Lib.hid hR
          have hi : i < 3 := (List.getElem?_eq_some_iff.1 ho).1
          clear hR hsz
          obtain rfl | rfl | rfl : i = 0 ∨ i = 1 ∨ i = 2 := by omega
          · cases ho
            simp only [putFrom, Act.put, List.take_succ_cons, List.take_zero, List.setIfInBounds_toArray, List.set_cons_succ, List.set_cons_zero] at hK ⊢
            go_simp
            exact hK _ _ (HV.out.step 0 HV.out.s (fun _ => HFV.out) (fun e => by cases e) (fun e => by cases e))
          · cases ho
            have h0 := HV.out.f (dep_listed ha 0 (by kernel_rfl))
            rw [← HFV.out] at h0
            simp only [putFrom, Act.put, List.take_succ_cons, List.take_zero, List.setIfInBounds_toArray, List.set_cons_succ, List.set_cons_zero, h0] at hK ⊢
            go_simp
            refine (HSW.out wx HV.out.s).mono ?_
            rintro _ w5 ⟨rfl, h⟩
            exact hK _ _ (HV.out.step 1 h (fun e => by cases e) (fun _ => rfl) (fun e => by cases e))
          · cases ho
            simp only [putFrom, Act.put, List.take_succ_cons, List.take_zero, List.setIfInBounds_toArray, List.set_cons_succ, List.set_cons_zero] at hK ⊢
            refine wp_load_by _ _ rfl wb 0 (.agg RV) rfl (HLD.out wx HV.out.s) ?_
            exact hK _ _ (HV.out.step 2 HV.out.s (fun e => by cases e) (fun e => by cases e) (fun _ => rfl))
        · intro v listed w9 hall hR
          have h0 := hR.f (hall 0 (by decide))
          have h1 := hR.a (hall 1 (by decide))
          have h2 := hR.b (hall 2 (by decide))
          have HS9 := Lib.hid hR.s
          rw [← HFV.out] at h0
          simp only [putFrom, Act.put, List.take_succ_cons, List.take_zero, List.setIfInBounds_toArray, List.set_cons_succ, List.set_cons_zero, h0, h1, h2]
          have ex := fun W => HEQ.out W
          have hgt : Tryz.prog.eqGuardType Tryz.prog.depth 71 = false := by kernel_rfl
          clear h0 h1 h2 hR hall
          go_wp2_with fail
          clear ex hgt
          refine (HWK.out w9 HS9.out).mono ?_
          rintro e_ Xz ⟨rfl, hb⟩
          have BE := Lib.hid hb
          clear hb
          go_wp2_with fail
          go_ret
          exact ⟨rfl, BE.out⟩
      · by_cases hj1 : (m : Int) ≤ job
        · have q1 : decide (job < 0) = false := decide_eq_false (by omega)
          have q2 : decide ((m : Int) ≤ job) = true := decide_eq_true (by omega)
          obtain ⟨e, hce, he0⟩ := call_out (x := x) (job := job) (t := at_) (by rw [HI.out.gn]; omega)
          have HCE := Lib.hid hce
          have q0 : (e == 0) = false := by rw [beq_eq_false_iff_ne]; exact he0
          have HE0 := Lib.hid he0
          clear hce he0
          go_wp2_with fail
          refine (st_why HI.out job at_ (no_why HCE.out HE0.out)).mono ?_
          rintro e_ X1 ⟨rfl, h⟩
          have J1 := Lib.hid h
          clear h HI a0 b0 k7
          have a1 : X1.cell? ⟨gb, 0, none⟩ = some (.pointer (some ⟨Y.g, 0, none⟩)) := J1.out.gv.cell 0
          have b1 : X1.cell? ⟨nb, 0, none⟩ = some (.int .i64 now) := J1.out.v.cell 0

          go_wp2_with fail
          refine (st_give J1.out job true at_ (no_give HCE.out HE0.out true)).mono ?_
          rintro e_ X2 ⟨rfl, h⟩
          have J2 := Lib.hid h
          clear h J1 a1 b1
          have a2 : X2.cell? ⟨gb, 0, none⟩ = some (.pointer (some ⟨Y.g, 0, none⟩)) := J2.out.gv.cell 0
          have b2 : X2.cell? ⟨nb, 0, none⟩ = some (.int .i64 now) := J2.out.v.cell 0

          go_wp2_with fail
          refine (st_take J2.out job at_ (no_take HCE.out HE0.out)).mono ?_
          rintro e_ X3 ⟨rfl, h⟩
          have J3 := Lib.hid h
          clear h J2 a2 b2
          have a3 : X3.cell? ⟨gb, 0, none⟩ = some (.pointer (some ⟨Y.g, 0, none⟩)) := J3.out.gv.cell 0
          have b3 : X3.cell? ⟨nb, 0, none⟩ = some (.int .i64 now) := J3.out.v.cell 0

          go_wp2_with fail
          refine (st_trip J3.out job at_ (no_trip HCE.out HE0.out)).mono ?_
          rintro e_ X4 ⟨rfl, h⟩
          have J4 := Lib.hid h
          clear h J3 a3 b3
          have a4 : X4.cell? ⟨gb, 0, none⟩ = some (.pointer (some ⟨Y.g, 0, none⟩)) := J4.out.gv.cell 0
          have b4 : X4.cell? ⟨nb, 0, none⟩ = some (.int .i64 now) := J4.out.v.cell 0

          go_wp2_with fail
          refine (st_reset J4.out job at_ (no_reset HCE.out HE0.out)).mono ?_
          rintro e_ X5 ⟨rfl, h⟩
          have J5 := Lib.hid h
          clear h J4 a4 b4 HCE HE0 q0
          go_upto_region 25 with fail
          have SX : Hid (SS X5) := Lib.hid (HSI.out _ J5.out.sh J5.out.was)
          clear J5
          refine wp_region_put_tail _ 3 _ (R := R25 SS FV (.agg RV)) (by rfl) (by kernel_rfl) (by kernel_rfl) (by kernel_rfl) (by kernel_rfl) (by kernel_rfl) (by kernel_rfl) (by kernel_rfl) (by kernel_rfl) ?_ ?_ ?_
          · intro v
            exact ⟨fun hz => (rep_not hz).elim, fun hz => (rep_not hz).elim, fun hz => (rep_not hz).elim, HSS.out _ _ SX.out (Below.refl _ _).drew⟩
          · intro Q' K_ listed v wx i o hsz ho hli ha hR hK
            have HV := Lib.hid hR
            have hi : i < 3 := (List.getElem?_eq_some_iff.1 ho).1
            clear hR hsz
            obtain rfl | rfl | rfl : i = 0 ∨ i = 1 ∨ i = 2 := by omega
            · cases ho
              simp only [putFrom, Act.put, List.take_succ_cons, List.take_zero, List.setIfInBounds_toArray, List.set_cons_succ, List.set_cons_zero] at hK ⊢
              go_simp
              exact hK _ _ (HV.out.step 0 HV.out.s (fun _ => HFV.out) (fun e => by cases e) (fun e => by cases e))
            · cases ho
              have h0 := HV.out.f (dep_listed ha 0 (by kernel_rfl))
              rw [← HFV.out] at h0
              simp only [putFrom, Act.put, List.take_succ_cons, List.take_zero, List.setIfInBounds_toArray, List.set_cons_succ, List.set_cons_zero, h0] at hK ⊢
              go_simp
              refine (HSW.out wx HV.out.s).mono ?_
              rintro _ w5 ⟨rfl, h⟩
              exact hK _ _ (HV.out.step 1 h (fun e => by cases e) (fun _ => rfl) (fun e => by cases e))
            · cases ho
              simp only [putFrom, Act.put, List.take_succ_cons, List.take_zero, List.setIfInBounds_toArray, List.set_cons_succ, List.set_cons_zero] at hK ⊢
              refine wp_load_by _ _ rfl wb 0 (.agg RV) rfl (HLD.out wx HV.out.s) ?_
              exact hK _ _ (HV.out.step 2 HV.out.s (fun e => by cases e) (fun e => by cases e) (fun _ => rfl))
          · intro v listed w9 hall hR
            have h0 := hR.f (hall 0 (by decide))
            have h1 := hR.a (hall 1 (by decide))
            have h2 := hR.b (hall 2 (by decide))
            have HS9 := Lib.hid hR.s
            rw [← HFV.out] at h0
            simp only [putFrom, Act.put, List.take_succ_cons, List.take_zero, List.setIfInBounds_toArray, List.set_cons_succ, List.set_cons_zero, h0, h1, h2]
            have ex := fun W => HEQ.out W
            have hgt : Tryz.prog.eqGuardType Tryz.prog.depth 71 = false := by kernel_rfl
            clear h0 h1 h2 hR hall
            go_wp2_with fail
            clear ex hgt
            refine (HWK.out w9 HS9.out).mono ?_
            rintro e_ Xz ⟨rfl, hb⟩
            have BE := Lib.hid hb
            clear hb
            go_wp2_with fail
            go_ret
            exact ⟨rfl, BE.out⟩
        · by_cases hj2 : at_ < 0
          · have q1 : decide (job < 0) = false := decide_eq_false (by omega)
            have q2 : decide ((m : Int) ≤ job) = false := decide_eq_false (by omega)
            have q3 : decide (at_ < 0) = true := decide_eq_true (by omega)
            obtain ⟨e, hce, he0⟩ := call_out (x := x) (job := job) (t := at_) (by rw [HI.out.gn]; omega)
            have HCE := Lib.hid hce
            have q0 : (e == 0) = false := by rw [beq_eq_false_iff_ne]; exact he0
            have HE0 := Lib.hid he0
            clear hce he0
            go_wp2_with fail
            refine (st_why HI.out job at_ (no_why HCE.out HE0.out)).mono ?_
            rintro e_ X1 ⟨rfl, h⟩
            have J1 := Lib.hid h
            clear h HI a0 b0 k7
            have a1 : X1.cell? ⟨gb, 0, none⟩ = some (.pointer (some ⟨Y.g, 0, none⟩)) := J1.out.gv.cell 0
            have b1 : X1.cell? ⟨nb, 0, none⟩ = some (.int .i64 now) := J1.out.v.cell 0

            go_wp2_with fail
            refine (st_give J1.out job true at_ (no_give HCE.out HE0.out true)).mono ?_
            rintro e_ X2 ⟨rfl, h⟩
            have J2 := Lib.hid h
            clear h J1 a1 b1
            have a2 : X2.cell? ⟨gb, 0, none⟩ = some (.pointer (some ⟨Y.g, 0, none⟩)) := J2.out.gv.cell 0
            have b2 : X2.cell? ⟨nb, 0, none⟩ = some (.int .i64 now) := J2.out.v.cell 0

            go_wp2_with fail
            refine (st_take J2.out job at_ (no_take HCE.out HE0.out)).mono ?_
            rintro e_ X3 ⟨rfl, h⟩
            have J3 := Lib.hid h
            clear h J2 a2 b2
            have a3 : X3.cell? ⟨gb, 0, none⟩ = some (.pointer (some ⟨Y.g, 0, none⟩)) := J3.out.gv.cell 0
            have b3 : X3.cell? ⟨nb, 0, none⟩ = some (.int .i64 now) := J3.out.v.cell 0

            go_wp2_with fail
            refine (st_trip J3.out job at_ (no_trip HCE.out HE0.out)).mono ?_
            rintro e_ X4 ⟨rfl, h⟩
            have J4 := Lib.hid h
            clear h J3 a3 b3
            have a4 : X4.cell? ⟨gb, 0, none⟩ = some (.pointer (some ⟨Y.g, 0, none⟩)) := J4.out.gv.cell 0
            have b4 : X4.cell? ⟨nb, 0, none⟩ = some (.int .i64 now) := J4.out.v.cell 0

            go_wp2_with fail
            refine (st_reset J4.out job at_ (no_reset HCE.out HE0.out)).mono ?_
            rintro e_ X5 ⟨rfl, h⟩
            have J5 := Lib.hid h
            clear h J4 a4 b4 HCE HE0 q0
            go_upto_region 25 with fail
            have SX : Hid (SS X5) := Lib.hid (HSI.out _ J5.out.sh J5.out.was)
            clear J5
            refine wp_region_put_tail _ 3 _ (R := R25 SS FV (.agg RV)) (by rfl) (by kernel_rfl) (by kernel_rfl) (by kernel_rfl) (by kernel_rfl) (by kernel_rfl) (by kernel_rfl) (by kernel_rfl) (by kernel_rfl) ?_ ?_ ?_
            · intro v
              exact ⟨fun hz => (rep_not hz).elim, fun hz => (rep_not hz).elim, fun hz => (rep_not hz).elim, HSS.out _ _ SX.out (Below.refl _ _).drew⟩
            · intro Q' K_ listed v wx i o hsz ho hli ha hR hK
              have HV := Lib.hid hR
              have hi : i < 3 := (List.getElem?_eq_some_iff.1 ho).1
              clear hR hsz
              obtain rfl | rfl | rfl : i = 0 ∨ i = 1 ∨ i = 2 := by omega
              · cases ho
                simp only [putFrom, Act.put, List.take_succ_cons, List.take_zero, List.setIfInBounds_toArray, List.set_cons_succ, List.set_cons_zero] at hK ⊢
                go_simp
                exact hK _ _ (HV.out.step 0 HV.out.s (fun _ => HFV.out) (fun e => by cases e) (fun e => by cases e))
              · cases ho
                have h0 := HV.out.f (dep_listed ha 0 (by kernel_rfl))
                rw [← HFV.out] at h0
                simp only [putFrom, Act.put, List.take_succ_cons, List.take_zero, List.setIfInBounds_toArray, List.set_cons_succ, List.set_cons_zero, h0] at hK ⊢
                go_simp
                refine (HSW.out wx HV.out.s).mono ?_
                rintro _ w5 ⟨rfl, h⟩
                exact hK _ _ (HV.out.step 1 h (fun e => by cases e) (fun _ => rfl) (fun e => by cases e))
              · cases ho
                simp only [putFrom, Act.put, List.take_succ_cons, List.take_zero, List.setIfInBounds_toArray, List.set_cons_succ, List.set_cons_zero] at hK ⊢
                refine wp_load_by _ _ rfl wb 0 (.agg RV) rfl (HLD.out wx HV.out.s) ?_
                exact hK _ _ (HV.out.step 2 HV.out.s (fun e => by cases e) (fun e => by cases e) (fun _ => rfl))
            · intro v listed w9 hall hR
              have h0 := hR.f (hall 0 (by decide))
              have h1 := hR.a (hall 1 (by decide))
              have h2 := hR.b (hall 2 (by decide))
              have HS9 := Lib.hid hR.s
              rw [← HFV.out] at h0
              simp only [putFrom, Act.put, List.take_succ_cons, List.take_zero, List.setIfInBounds_toArray, List.set_cons_succ, List.set_cons_zero, h0, h1, h2]
              have ex := fun W => HEQ.out W
              have hgt : Tryz.prog.eqGuardType Tryz.prog.depth 71 = false := by kernel_rfl
              clear h0 h1 h2 hR hall
              go_wp2_with fail
              clear ex hgt
              refine (HWK.out w9 HS9.out).mono ?_
              rintro e_ Xz ⟨rfl, hb⟩
              have BE := Lib.hid hb
              clear hb
              go_wp2_with fail
              go_ret
              exact ⟨rfl, BE.out⟩
          · by_cases hj3 : 253402300799 < at_
            · have q1 : decide (job < 0) = false := decide_eq_false (by omega)
              have q2 : decide ((m : Int) ≤ job) = false := decide_eq_false (by omega)
              have q3 : decide (at_ < 0) = false := decide_eq_false (by omega)
              have q4 : decide (253402300799 < at_) = true := decide_eq_true (by omega)
              obtain ⟨e, hce, he0⟩ := call_out (x := x) (job := job) (t := at_) (by rw [HI.out.gn]; omega)
              have HCE := Lib.hid hce
              have q0 : (e == 0) = false := by rw [beq_eq_false_iff_ne]; exact he0
              have HE0 := Lib.hid he0
              clear hce he0
              go_wp2_with fail
              refine (st_why HI.out job at_ (no_why HCE.out HE0.out)).mono ?_
              rintro e_ X1 ⟨rfl, h⟩
              have J1 := Lib.hid h
              clear h HI a0 b0 k7
              have a1 : X1.cell? ⟨gb, 0, none⟩ = some (.pointer (some ⟨Y.g, 0, none⟩)) := J1.out.gv.cell 0
              have b1 : X1.cell? ⟨nb, 0, none⟩ = some (.int .i64 now) := J1.out.v.cell 0

              go_wp2_with fail
              refine (st_give J1.out job true at_ (no_give HCE.out HE0.out true)).mono ?_
              rintro e_ X2 ⟨rfl, h⟩
              have J2 := Lib.hid h
              clear h J1 a1 b1
              have a2 : X2.cell? ⟨gb, 0, none⟩ = some (.pointer (some ⟨Y.g, 0, none⟩)) := J2.out.gv.cell 0
              have b2 : X2.cell? ⟨nb, 0, none⟩ = some (.int .i64 now) := J2.out.v.cell 0

              go_wp2_with fail
              refine (st_take J2.out job at_ (no_take HCE.out HE0.out)).mono ?_
              rintro e_ X3 ⟨rfl, h⟩
              have J3 := Lib.hid h
              clear h J2 a2 b2
              have a3 : X3.cell? ⟨gb, 0, none⟩ = some (.pointer (some ⟨Y.g, 0, none⟩)) := J3.out.gv.cell 0
              have b3 : X3.cell? ⟨nb, 0, none⟩ = some (.int .i64 now) := J3.out.v.cell 0

              go_wp2_with fail
              refine (st_trip J3.out job at_ (no_trip HCE.out HE0.out)).mono ?_
              rintro e_ X4 ⟨rfl, h⟩
              have J4 := Lib.hid h
              clear h J3 a3 b3
              have a4 : X4.cell? ⟨gb, 0, none⟩ = some (.pointer (some ⟨Y.g, 0, none⟩)) := J4.out.gv.cell 0
              have b4 : X4.cell? ⟨nb, 0, none⟩ = some (.int .i64 now) := J4.out.v.cell 0

              go_wp2_with fail
              refine (st_reset J4.out job at_ (no_reset HCE.out HE0.out)).mono ?_
              rintro e_ X5 ⟨rfl, h⟩
              have J5 := Lib.hid h
              clear h J4 a4 b4 HCE HE0 q0
              go_upto_region 25 with fail
              have SX : Hid (SS X5) := Lib.hid (HSI.out _ J5.out.sh J5.out.was)
              clear J5
              refine wp_region_put_tail _ 3 _ (R := R25 SS FV (.agg RV)) (by rfl) (by kernel_rfl) (by kernel_rfl) (by kernel_rfl) (by kernel_rfl) (by kernel_rfl) (by kernel_rfl) (by kernel_rfl) (by kernel_rfl) ?_ ?_ ?_
              · intro v
                exact ⟨fun hz => (rep_not hz).elim, fun hz => (rep_not hz).elim, fun hz => (rep_not hz).elim, HSS.out _ _ SX.out (Below.refl _ _).drew⟩
              · intro Q' K_ listed v wx i o hsz ho hli ha hR hK
                have HV := Lib.hid hR
                have hi : i < 3 := (List.getElem?_eq_some_iff.1 ho).1
                clear hR hsz
                obtain rfl | rfl | rfl : i = 0 ∨ i = 1 ∨ i = 2 := by omega
                · cases ho
                  simp only [putFrom, Act.put, List.take_succ_cons, List.take_zero, List.setIfInBounds_toArray, List.set_cons_succ, List.set_cons_zero] at hK ⊢
                  go_simp
                  exact hK _ _ (HV.out.step 0 HV.out.s (fun _ => HFV.out) (fun e => by cases e) (fun e => by cases e))
                · cases ho
                  have h0 := HV.out.f (dep_listed ha 0 (by kernel_rfl))
                  rw [← HFV.out] at h0
                  simp only [putFrom, Act.put, List.take_succ_cons, List.take_zero, List.setIfInBounds_toArray, List.set_cons_succ, List.set_cons_zero, h0] at hK ⊢
                  go_simp
                  refine (HSW.out wx HV.out.s).mono ?_
                  rintro _ w5 ⟨rfl, h⟩
                  exact hK _ _ (HV.out.step 1 h (fun e => by cases e) (fun _ => rfl) (fun e => by cases e))
                · cases ho
                  simp only [putFrom, Act.put, List.take_succ_cons, List.take_zero, List.setIfInBounds_toArray, List.set_cons_succ, List.set_cons_zero] at hK ⊢
                  refine wp_load_by _ _ rfl wb 0 (.agg RV) rfl (HLD.out wx HV.out.s) ?_
                  exact hK _ _ (HV.out.step 2 HV.out.s (fun e => by cases e) (fun e => by cases e) (fun _ => rfl))
              · intro v listed w9 hall hR
                have h0 := hR.f (hall 0 (by decide))
                have h1 := hR.a (hall 1 (by decide))
                have h2 := hR.b (hall 2 (by decide))
                have HS9 := Lib.hid hR.s
                rw [← HFV.out] at h0
                simp only [putFrom, Act.put, List.take_succ_cons, List.take_zero, List.setIfInBounds_toArray, List.set_cons_succ, List.set_cons_zero, h0, h1, h2]
                have ex := fun W => HEQ.out W
                have hgt : Tryz.prog.eqGuardType Tryz.prog.depth 71 = false := by kernel_rfl
                clear h0 h1 h2 hR hall
                go_wp2_with fail
                clear ex hgt
                refine (HWK.out w9 HS9.out).mono ?_
                rintro e_ Xz ⟨rfl, hb⟩
                have BE := Lib.hid hb
                clear hb
                go_wp2_with fail
                go_ret
                exact ⟨rfl, BE.out⟩
            · have q1 : decide (job < 0) = false := decide_eq_false (by omega)
              have q2 : decide ((m : Int) ≤ job) = false := decide_eq_false (by omega)
              have q3 : decide (at_ < 0) = false := decide_eq_false (by omega)
              have q4 : decide (253402300799 < at_) = false := decide_eq_false (by omega)
              go_upto_region 25 with fail
              have SX : Hid (SS wr) := Lib.hid (HSI.out _ HI.out.sh HI.out.was)
              clear HI
              refine wp_region_put_tail _ 3 _ (R := R25 SS FV (.agg RV)) (by rfl) (by kernel_rfl) (by kernel_rfl) (by kernel_rfl) (by kernel_rfl) (by kernel_rfl) (by kernel_rfl) (by kernel_rfl) (by kernel_rfl) ?_ ?_ ?_
              · intro v
                exact ⟨fun hz => (rep_not hz).elim, fun hz => (rep_not hz).elim, fun hz => (rep_not hz).elim, HSS.out _ _ SX.out (Below.refl _ _).drew⟩
              · intro Q' K_ listed v wx i o hsz ho hli ha hR hK
                have HV := Lib.hid hR
                have hi : i < 3 := (List.getElem?_eq_some_iff.1 ho).1
                clear hR hsz
                obtain rfl | rfl | rfl : i = 0 ∨ i = 1 ∨ i = 2 := by omega
                · cases ho
                  simp only [putFrom, Act.put, List.take_succ_cons, List.take_zero, List.setIfInBounds_toArray, List.set_cons_succ, List.set_cons_zero] at hK ⊢
                  go_simp
                  exact hK _ _ (HV.out.step 0 HV.out.s (fun _ => HFV.out) (fun e => by cases e) (fun e => by cases e))
                · cases ho
                  have h0 := HV.out.f (dep_listed ha 0 (by kernel_rfl))
                  rw [← HFV.out] at h0
                  simp only [putFrom, Act.put, List.take_succ_cons, List.take_zero, List.setIfInBounds_toArray, List.set_cons_succ, List.set_cons_zero, h0] at hK ⊢
                  go_simp
                  refine (HSW.out wx HV.out.s).mono ?_
                  rintro _ w5 ⟨rfl, h⟩
                  exact hK _ _ (HV.out.step 1 h (fun e => by cases e) (fun _ => rfl) (fun e => by cases e))
                · cases ho
                  simp only [putFrom, Act.put, List.take_succ_cons, List.take_zero, List.setIfInBounds_toArray, List.set_cons_succ, List.set_cons_zero] at hK ⊢
                  refine wp_load_by _ _ rfl wb 0 (.agg RV) rfl (HLD.out wx HV.out.s) ?_
                  exact hK _ _ (HV.out.step 2 HV.out.s (fun e => by cases e) (fun e => by cases e) (fun _ => rfl))
              · intro v listed w9 hall hR
                have h0 := hR.f (hall 0 (by decide))
                have h1 := hR.a (hall 1 (by decide))
                have h2 := hR.b (hall 2 (by decide))
                have HS9 := Lib.hid hR.s
                rw [← HFV.out] at h0
                simp only [putFrom, Act.put, List.take_succ_cons, List.take_zero, List.setIfInBounds_toArray, List.set_cons_succ, List.set_cons_zero, h0, h1, h2]
                have ex := fun W => HEQ.out W
                have hgt : Tryz.prog.eqGuardType Tryz.prog.depth 71 = false := by kernel_rfl
                clear h0 h1 h2 hR hall
                go_wp2_with fail
                clear ex hgt
                refine (HWK.out w9 HS9.out).mono ?_
                rintro e_ Xz ⟨rfl, hb⟩
                have BE := Lib.hid hb
                clear hb
                go_wp2_with fail
                go_ret
                exact ⟨rfl, BE.out⟩
end Go.Proofs.YtpgckpafjiojfaaGreatDoor.AD
