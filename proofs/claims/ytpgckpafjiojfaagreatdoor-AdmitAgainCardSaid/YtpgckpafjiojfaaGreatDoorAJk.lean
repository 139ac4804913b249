/- Contract of wakemanlaw35.after: a gate after some moves, and what its calls keep. -/
import Derived.Test.YtpgckpafjiojfaaGreatDoorAJb
namespace Go.Proofs.YtpgckpafjiojfaaGreatDoor.AD
open Go Go.RowKit BW
open BK (Bx BoxAt Blk only_refl only_drew only_drewN only_setCell only_trans only_of_below only_alloc below_drewN)
/-- What a gate's calls keep. -/
structure Cl (I : Gt → Prop) : Prop where
  take : ∀ x k t, I x → I (x.take k t).2
  give : ∀ x k ok t, I x → I (x.give k ok t).2.2
  trip : ∀ x k t, I x → I (x.trip k t).2
  reset : ∀ x k t, I x → I (x.reset k t).2
def SameRule (a b : Bx) : Prop := a.f = b.f ∧ a.o = b.o ∧ a.p = b.p
theorem rule_take (b : Bx) (t : Int) : SameRule (BK.take b t).2 b := by
  unfold BK.take
  split
  · exact ⟨rfl, rfl, rfl⟩
  · split
    · exact ⟨rfl, rfl, rfl⟩
    · show SameRule (BK.seen (if _ then _ else _) t) b
      split <;> exact ⟨rfl, rfl, rfl⟩
theorem rule_ended (b : Bx) (ok : Bool) (t : Int) : SameRule (BK.ended b ok t).2 b := by
  unfold BK.ended
  split
  · unfold BK.closed
    split
    · exact ⟨rfl, rfl, rfl⟩
    · split <;> exact ⟨rfl, rfl, rfl⟩
  · split
    · exact ⟨rfl, rfl, rfl⟩
    · unfold BK.half
      split
      · exact ⟨rfl, rfl, rfl⟩
      · split
        · exact ⟨rfl, rfl, rfl⟩
        · split <;> exact ⟨rfl, rfl, rfl⟩
theorem rule_report (b : Bx) (ok : Bool) (t : Int) : SameRule (BK.report b ok t).2.2 b := by
  unfold BK.report
  split
  · exact ⟨rfl, rfl, rfl⟩
  · split
    · exact ⟨rfl, rfl, rfl⟩
    · exact rule_ended (BK.seen b t) ok t
theorem rule_trip (b : Bx) (t : Int) : SameRule (BK.trip b t).2 b := by
  unfold BK.trip
  split <;> exact ⟨rfl, rfl, rfl⟩
theorem rule_reset (b : Bx) (t : Int) : SameRule (BK.reset b t).2 b := by
  unfold BK.reset
  split <;> exact ⟨rfl, rfl, rfl⟩
/-- A gate keeps its configuration's policies, and its cap. -/
structure PolOk (G : Gl) (LL : JL) (x : Gt) : Prop where
  cap : x.cap = G.cap
  t : x.both.t = G.t
  tau : x.both.tau = G.tau
  n : x.js.length = LL.length
  js : ∀ (k : Nat) (y : Jb × List (Int × Int)) (j : Jt), LL[k]? = some y → x.js[k]? = some j → JPol y.1.y j
  tot : x.total ≤ x.cap
theorem PolOk.put {G : Gl} {LL : JL} {x : Gt} (h : PolOk G LL x) {k : Nat} {j j' : Jt} (hj : x.js[k]? = some j) (hc : j'.cap = j.cap) (ht : j'.lm.t = j.lm.t) (ha : j'.lm.tau = j.lm.tau) (hr : SameRule j'.bx j.bx) {b : Lm} (hb : b.t = x.both.t ∧ b.tau = x.both.tau) (hs : x.total + (j'.runs - j.runs) ≤ x.cap) (now : Int) : PolOk G LL ⟨x.cap, b, x.js.set k j', now⟩ := by
  refine ⟨h.cap, hb.1.trans h.t, hb.2.trans h.tau, List.length_set.trans h.n, fun q y m hy hm => ?_, ?_⟩
  · have hm : (x.js.set k j')[q]? = some m := hm
    rw [List.getElem?_set] at hm
    by_cases hq : k = q
    · subst hq
      rw [if_pos rfl] at hm
      split at hm
      · injection hm with hm
        subst hm
        have h0 := h.js k y j hy hj
        exact ⟨hc.trans h0.cap, ht.trans h0.t, ha.trans h0.tau, hr.1.trans h0.f, hr.2.1.trans h0.o, hr.2.2.trans h0.p⟩
      · cases hm
    · rw [if_neg hq] at hm
      exact h.js q y m hy hm
  · show sumR (x.js.set k j') ≤ x.cap
    rw [sumR_set hj]
    exact hs
theorem pol_cl (G : Gl) (LL : JL) : Cl (PolOk G LL) where
  take x k t h := by
    unfold Gt.take
    split
    · exact h
    · split
      · next j hj =>
        split
        · exact h
        · next hw =>
          have hz : x.whyJ j t = 0 := by omega
          obtain ⟨z1, -⟩ := whyJ_zero hz
          exact h.put (j' := ⟨j.cap, j.runs + 1, j.lm.count t, (BK.take j.bx t).2⟩) hj rfl rfl rfl (rule_take _ _) (b := x.both.count t) ⟨rfl, rfl⟩ (by show x.total + (j.runs + 1 - j.runs) ≤ x.cap; omega) t
      · exact h
  give x k ok t h := by
    unfold Gt.give
    split
    · exact h
    · split
      · next j hj =>
        split
        · exact h
        · have := h.tot
          exact h.put (j' := ⟨j.cap, j.runs - 1, j.lm, (BK.report j.bx ok t).2.2⟩) hj rfl rfl rfl (rule_report _ _ _) ⟨rfl, rfl⟩ (by show x.total + (j.runs - 1 - j.runs) ≤ x.cap; omega) t
      · exact h
  trip x k t h := by
    unfold Gt.trip Gt.switch
    split
    · exact h
    · split
      · next j hj =>
        split
        · exact h
        · have := h.tot
          exact h.put (j' := ⟨j.cap, j.runs, j.lm, (BK.trip j.bx t).2⟩) hj rfl rfl rfl (rule_trip _ _) ⟨rfl, rfl⟩ (by show x.total + (j.runs - j.runs) ≤ x.cap; omega) t
      · exact h
  reset x k t h := by
    unfold Gt.reset Gt.switch
    split
    · exact h
    · split
      · next j hj =>
        split
        · exact h
        · have := h.tot
          exact h.put (j' := ⟨j.cap, j.runs, j.lm, (BK.reset j.bx t).2⟩) hj rfl rfl rfl (rule_reset _ _) ⟨rfl, rfl⟩ (by show x.total + (j.runs - j.runs) ≤ x.cap; omega) t
      · exact h
theorem pol_new {G : Gl} {LL : JL} (hC : CfOk G LL) : PolOk G LL (g0 G LL) := by
  refine ⟨rfl, rfl, rfl, by show (LL.map jt0).length = _; rw [List.length_map], fun k y j hy hj => ?_, ?_⟩
  · have hj : (LL.map jt0)[k]? = some j := hj
    rw [List.getElem?_map, hy] at hj
    injection hj with hj
    subst hj
    exact ⟨rfl, rfl, rfl, rfl, rfl, rfl⟩
  · show sumR (LL.map jt0) ≤ G.cap
    rw [sumR_zero]
    have := (glB_parts hC.gl).1
    omega
/-- The gate, and the variable of the configuration. -/
structure AfJ (I : Gt → Prop) (B : Nat) (w0 : World) (cb N : Nat) (cs : Array Value) (L : Ly) (x : Gt) (now : Int) (W : World) : Prop where
  h : GHas B w0 W L x
  c : Blk W cb 31 cs
  s : Sm x now
  n : x.js.length = N
  i : I x
section
variable {I : Gt → Prop} {B cb N : Nat} {w0 W W' : World} {cs : Array Value} {L : Ly} {x y : Gt} {now t : Int}
theorem AfJ.below (H : AfJ I B w0 cb N cs L x now W) (hb : Below W.heap.size W W') : AfJ I B w0 cb N cs L x now W' := ⟨H.h.below hb, H.c.below hb H.c.lt, H.s, H.n, H.i⟩
theorem AfJ.go (H : AfJ I B w0 cb N cs L x now W) (h : GHas B w0 W' L y) (hk : Keeps W W') (hs : Sm y t) (hn : y.js.length = x.js.length) (hi : I y) : AfJ I B w0 cb N cs L y t W' := ⟨h, hk _ _ _ H.c (by decide) (by decide) (by decide) (by decide), hs, hn.trans H.n, hi⟩
theorem aj_take (CI : Cl I) (H : AfJ I B w0 cb N cs L x now W) (ht : now ≤ t) (job : Int) : Calls Tryz.prog 13 #[.pointer (some ⟨L.g, 0, none⟩), .int .i64 job, .int .i64 t] W fun e w' => e = .returned (.int .i64 (x.take job t).1) ∧ AfJ I B w0 cb N cs L (x.take job t).2 t w' :=
  (gh_take H.h job t rfl).mono fun _ _ ⟨h1, h2, h3⟩ => ⟨h1, H.go h2 h3 (H.s.take ht job) Gt.take_len (CI.take _ _ _ H.i)⟩
theorem aj_trip (CI : Cl I) (H : AfJ I B w0 cb N cs L x now W) (ht : now ≤ t) (job : Int) : Calls Tryz.prog 11 #[.pointer (some ⟨L.g, 0, none⟩), .int .i64 job, .int .i64 t] W fun e w' => e = .returned (.int .i64 (x.trip job t).1) ∧ AfJ I B w0 cb N cs L (x.trip job t).2 t w' :=
  (gh_trip H.h job t rfl).mono fun _ _ ⟨h1, h2, h3⟩ => ⟨h1, H.go h2 h3 (H.s.trip ht job) Gt.switch_len (CI.trip _ _ _ H.i)⟩
theorem aj_reset (CI : Cl I) (H : AfJ I B w0 cb N cs L x now W) (ht : now ≤ t) (h0 : 0 ≤ t) (job : Int) : Calls Tryz.prog 12 #[.pointer (some ⟨L.g, 0, none⟩), .int .i64 job, .int .i64 t] W fun e w' => e = .returned (.int .i64 (x.reset job t).1) ∧ AfJ I B w0 cb N cs L (x.reset job t).2 t w' :=
  (gh_reset H.h job t rfl).mono fun _ _ ⟨h1, h2, h3⟩ => ⟨h1, H.go h2 h3 (H.s.reset ht h0 job) Gt.switch_len (CI.reset _ _ _ H.i)⟩
theorem aj_give (CI : Cl I) (H : AfJ I B w0 cb N cs L x now W) (ht : now ≤ t) (h0 : 0 ≤ t) (job : Int) (ok : Bool) : Calls Tryz.prog 10 #[.pointer (some ⟨L.g, 0, none⟩), .int .i64 job, .bool ok, .int .i64 t] W fun e w' => e = .returned (.tuple #[.int .i64 (x.give job ok t).1, .int .i64 (x.give job ok t).2.1]) ∧ AfJ I B w0 cb N cs L (x.give job ok t).2.2 t w' :=
  (gh_give H.h job ok t rfl).mono fun _ _ ⟨h1, h2, h3⟩ => ⟨h1, H.go h2 h3 (H.s.give ht h0 job ok) Gt.give_len (CI.give _ _ _ _ H.i)⟩
end
set_option maxRecDepth 16000 in
set_option maxHeartbeats 2000000 in
theorem after_okI (I : Gt → Prop) (CI : Cl I) (G : Gl) (LL : JL) (ja : Option Addr) (N jc : Nat) (hN : 0 < N) (hN4 : N ≤ 4) (hLN : LL.length = N) (a : Option Addr) (ms : List Mv) (n c : Nat) (hn : ms.length = n) (hnc : n ≤ c) (h9 : n ≤ 9223372036854775807) (w : World) (hA : CArg w ⟨G, ja, N, jc⟩ LL) (hC : CfOk G LL) (hII : I (g0 G LL)) (hS : Sm (g0 G LL) 50) (hM : MovesAt w a ms) :
    Calls Tryz.prog 17 #[.agg #[.int .i64 G.cap, .int .i64 G.q, .int .i64 G.ar, .int .i64 G.ag, .int .u64 G.sd, .int .i64 G.t, .int .i64 G.tau, .slice ja N jc], .slice a n c] w fun e w' => ∃ (Y : Ly) (x : Gt) (now : Int), e = .returned (.tuple #[.pointer (some ⟨Y.g, 0, none⟩), .int .i64 now, .bool true]) ∧ GHas w.heap.size w w' Y x ∧ Sm x now ∧ x.js.length = N ∧ I x ∧ 50 ≤ now ∧ now ≤ 330 := by
  have HM := Lib.hid (fun W (hb : Below w.heap.size w W) => MovesAt.below hM hb)
  have HN := Lib.hid hn
  have HS := Lib.hid hS
  have HII := Lib.hid hII
  have hbx : Below w.heap.size w (w.alloc (.cells #[.int .i64 G.cap, .int .i64 G.q, .int .i64 G.ar, .int .i64 G.ag, .int .u64 G.sd, .int .i64 G.t, .int .i64 G.tau, .slice ja N jc] 31)) := (Below.refl _ _).alloc (Nat.le_refl _) _
  have GN := Lib.hid (gnew_yes ⟨G, ja, N, jc⟩ LL _ (hA.below hbx) hC)
  have CB : Hid (Blk (w.alloc (.cells #[.int .i64 G.cap, .int .i64 G.q, .int .i64 G.ar, .int .i64 G.ag, .int .u64 G.sd, .int .i64 G.t, .int .i64 G.tau, .slice ja N jc] 31)) w.heap.size 31 #[.int .i64 G.cap, .int .i64 G.q, .int .i64 G.ar, .int .i64 G.ag, .int .u64 G.sd, .int .i64 G.t, .int .i64 G.tau, .slice ja N jc]) := Lib.hid (Blk.new _ _ _)
  have BX := Lib.hid hbx
  have HLN : Hid ((g0 G LL).js.length = N) := Lib.hid (by unfold g0; simp [hLN])
  clear hA hC hS hM hbx hn hLN hII
  go_enter Tryz.func17, Tryz.ntmps17
  go_wp2_with fail
  refine (GN.out).mono ?_
  rintro e_ w1 ⟨Y, rfl, hg, hs, hb⟩
  have I1 : Hid (AfJ I w.heap.size w w.heap.size N #[.int .i64 G.cap, .int .i64 G.q, .int .i64 G.ar, .int .i64 G.ag, .int .u64 G.sd, .int .i64 G.t, .int .i64 G.tau, .slice ja N jc] Y (g0 G LL) 50 w1) := Lib.hid ⟨⟨hg, BX.out.trans (hb.mono BX.out.size), fun i hi => by
      have := hs i (.inl (by rw [HLN.out] at hi; rw [show LL.length = N from by have := HLN.out; unfold g0 at this; simpa using this]; exact hi))
      have h2 := BX.out.size
      omega, Nat.le_refl _⟩, CB.out.below hb CB.out.lt, HS.out, HLN.out, HII.out⟩
  clear hg hs hb GN CB HS HLN BX HII
  generalize hcb : w.heap.size = cb at I1 HM ⊢
  have HCB := Lib.hid hcb
  clear hcb
  generalize g0 G LL = x0 at *
  obtain ⟨mm, HMM⟩ : ∃ mm, Hid (mm = min n 40) := ⟨_, Lib.hid rfl⟩
  have hm : min (n : Int) 40 = (mm : Int) := by have := HMM.out; omega
  have hmc : mm ≤ c := by have := HMM.out; omega
  have hmn : mm ≤ n := by have := HMM.out; omega
  have hm4 : mm ≤ 40 := by have := HMM.out; omega
  have hNz : ((N : Int) == 0) = false := by rw [beq_eq_false_iff_ne]; omega
  go_wp2_with fail
  go_loopw [9, 27] (fun s9 s27 wr => ∃ k : Nat, k ≤ mm ∧ s27 = .int .i64 k ∧ ∃ (now : Int) (x : Gt), s9 = .int .i64 now ∧ AfJ I cb w cb N #[.int .i64 G.cap, .int .i64 G.q, .int .i64 G.ar, .int .i64 G.ag, .int .u64 G.sd, .int .i64 G.t, .int .i64 G.tau, .slice ja N jc] Y x now wr ∧ 50 ≤ now ∧ now ≤ 50 + 7 * (k : Int)) (fun _ s27 _ => mm - intA s27)
  case atStart => exact ⟨0, Nat.zero_le _, rfl, 50, _, rfl, I1.out, by decide, by decide⟩
  case round =>
    obtain ⟨k, hk, rfl, now, x, rfl, hI, hlo, hnow⟩ := hrel
    have HI := Lib.hid hI
    clear hI I1 hm
    rcases Nat.lt_or_ge k mm with hlt | hge
    · have hkl : k < ms.length := by rw [HN.out]; omega
      obtain ⟨b, off, rfl, hcl, hok⟩ := (HM.out wr HI.out.h.bel) k hkl
      obtain ⟨mv, hmv⟩ : ∃ mv, ms[k] = mv := ⟨_, rfl⟩
      rw [hmv] at hcl hok
      have c0 : wr.cell? ⟨b, off + k * 3, none⟩ = some (.int .u8 mv.ah) := hcl 0 (by decide)
      have c1 : wr.cell? ⟨b, off + k * 3 + 1, none⟩ = some (.int .u8 mv.job) := hcl 1 (by decide)
      have c2 : wr.cell? ⟨b, off + k * 3 + 2, none⟩ = some (.int .u8 mv.kind) := hcl 2 (by decide)
      obtain ⟨ho1, ho2, ho3⟩ := hok
      clear hcl hmv hkl
      obtain ⟨t, HT⟩ : ∃ t : Int, Hid (now + (mv.ah : Int) % 8 = t) := ⟨_, Lib.hid rfl⟩
      have ht1 : now ≤ t := by have := HT.out; omega
      have ht3 : t ≤ 50 + 7 * ((k : Int) + 1) := by have := HT.out; omega
      go_upto_region 8 with fail
      obtain ⟨X1, hX1⟩ : ∃ X1, X1 = wr.alloc (.cells #[.int .u8 mv.ah, .int .u8 mv.job, .int .u8 mv.kind] 42) := ⟨_, rfl⟩
      have hbX : Below wr.heap.size wr X1 := by rw [hX1]; exact (Below.refl _ _).alloc (Nat.le_refl _) _
      have MB : Hid (Blk X1 wr.heap.size 42 #[.int .u8 mv.ah, .int .u8 mv.job, .int .u8 mv.kind]) := Lib.hid (by rw [hX1]; exact Blk.new _ _ _)
      have I2 := Lib.hid (HI.out.below hbX)
      rw [← hX1]
      generalize wr.heap.size = mb at *
      clear hX1 hbX c0 c1 c2 HI
      have d0 : X1.cell? ⟨mb, 0, none⟩ = some (.int .u8 mv.ah) := MB.out.cell 0
      have d1 : X1.cell? ⟨mb, 1, none⟩ = some (.int .u8 mv.job) := MB.out.cell 1
      have d2 : X1.cell? ⟨mb, 2, none⟩ = some (.int .u8 mv.kind) := MB.out.cell 2
      have k7 : X1.cell? ⟨cb, 7, none⟩ = some (.slice ja N jc) := I2.out.c.cell 7
      have hs := HT.out
      have hw1 : IntKind.i64.wrap (now + (mv.ah : Int) % 8) = t := by rw [IntWalk.i64_in _ (by omega)]; exact hs
      go_upto_region 9 with fail
      clear hs hw1
      have hjm : (mv.job : Int) % (N : Int) < 4 ∧ 0 ≤ (mv.job : Int) % (N : Int) := by
        have h1 := Int.emod_lt_of_pos (mv.job : Int) (show (0 : Int) < (N : Int) by omega)
        have h2 := Int.emod_nonneg (mv.job : Int) (show (N : Int) ≠ 0 by omega)
        omega
      go_upto_region 10 with fail
      obtain ⟨jv, hjv⟩ : ∃ jv : Int, jv = (mv.job : Int) % (N : Int) := ⟨_, rfl⟩
      have hk16 : (mv.kind : Int) % 16 < 16 ∧ 0 ≤ (mv.kind : Int) % 16 := by omega
      rcases Nat.lt_or_ge (mv.kind % 16) 5 with hk5 | hk5
      · have q5 : decide ((mv.kind : Int) % 16 < 5) = true := by simp; omega
        rw [← hjv] at hjm ⊢
        clear hjv
        go_wp2_with fail
        refine (aj_give CI I2.out ht1 (by omega) jv (decide ((mv.kind : Int) % 16 < 3))).mono ?_
        rintro e_ X2 ⟨rfl, h⟩
        have I3 := Lib.hid h
        clear h
        go_wp2_with fail
        refine ⟨⟨k + 1, by omega, by go_num, t, _, rfl, I3.out, by omega⟩, ?_⟩
        simp [intA]; omega
      · have q5 : decide ((mv.kind : Int) % 16 < 5) = false := by simp; omega
        rcases Nat.eq_or_lt_of_le hk5 with he5 | he5
        · have e5 : ((mv.kind : Int) % 16 == 5) = true := by rw [beq_iff_eq]; omega
          rw [← hjv] at hjm ⊢
          clear hjv he5 hk5
          go_wp2_with fail
          refine (aj_trip CI I2.out ht1 jv).mono ?_
          rintro e_ X2 ⟨rfl, h⟩
          have I3 := Lib.hid h
          clear h
          go_wp2_with fail
          refine ⟨⟨k + 1, by omega, by go_num, t, _, rfl, I3.out, by omega⟩, ?_⟩
          simp [intA]; omega
        · have e5 : ((mv.kind : Int) % 16 == 5) = false := by rw [beq_eq_false_iff_ne]; omega
          rcases Nat.eq_or_lt_of_le he5 with he6 | he6
          · have e6 : ((mv.kind : Int) % 16 == 6) = true := by rw [beq_iff_eq]; omega
            rw [← hjv] at hjm ⊢
            clear hjv he6 he5 hk5
            go_wp2_with fail
            refine (aj_reset CI I2.out ht1 (by omega) jv).mono ?_
            rintro e_ X2 ⟨rfl, h⟩
            have I3 := Lib.hid h
            clear h
            go_wp2_with fail
            refine ⟨⟨k + 1, by omega, by go_num, t, _, rfl, I3.out, by omega⟩, ?_⟩
            simp [intA]; omega
          · have e6 : ((mv.kind : Int) % 16 == 6) = false := by rw [beq_eq_false_iff_ne]; omega
            rw [← hjv] at hjm ⊢
            clear hjv he6 he5 hk5
            go_wp2_with fail
            refine (aj_take CI I2.out ht1 jv).mono ?_
            rintro e_ X2 ⟨rfl, h⟩
            have I3 := Lib.hid h
            clear h
            go_wp2_with fail
            refine ⟨⟨k + 1, by omega, by go_num, t, _, rfl, I3.out, by omega⟩, ?_⟩
            simp [intA]; omega
    · obtain rfl : mm = k := by omega
      go_wp2_with fail
      (try simp only [Exit.inBlock, Exit.then])
      refine bodyPost_ret (results_tmp3 rfl _ _ _) rfl ?_
      rw [HCB.out]
      exact ⟨_, _, _, rfl, HI.out.h, HI.out.s, HI.out.n, HI.out.i, hlo, by omega⟩
end Go.Proofs.YtpgckpafjiojfaaGreatDoor.AD
