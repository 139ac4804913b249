/- The walk of wakemanlaw35.AdmitAgain. -/
import Derived.Test.YtpgckpafjiojfaaGreatDoorAJf
import Derived.Test.YtpgckpafjiojfaaGreatDoorAJi
import Derived.Test.YtpgckpafjiojfaaGreatDoorAJk
namespace Go.Proofs.YtpgckpafjiojfaaGreatDoor.AD
open Go Go.RowKit BW
open BK (Bx BoxAt Blk only_refl only_drew only_drewN only_setCell only_trans only_of_below only_alloc below_drewN)
/-- A gate and the one that was restored, apart. -/
structure AgI (B T : Nat) (w0 : World) (cb N : Nat) (cs : Array Value) (L M : Ly) (x z : Gt) (W : World) : Prop where
  g : GAt W L x
  h : GAt W M z
  gn : x.js.length = N
  hn : z.js.length = N
  sup : ∀ i, L.sup N i → i < T
  own : ∀ i, L.own N i → B ≤ i
  far : ∀ i, M.sup N i → T ≤ i
  c : Blk W cb 31 cs
  bel : Below B w0 W
  le : B ≤ w0.heap.size ∧ B ≤ T
section
variable {B T cb N : Nat} {w0 W W' : World} {cs : Array Value} {L M : Ly} {x z y : Gt}
theorem AgI.below (H : AgI B T w0 cb N cs L M x z W) (hb : Below W.heap.size W W') : AgI B T w0 cb N cs L M x z W' := ⟨H.g.below hb, H.h.below hb, H.gn, H.hn, H.sup, H.own, H.far, H.c.below hb H.c.lt, H.bel.trans (hb.mono (Nat.le_trans H.le.1 H.bel.size)), H.le⟩
theorem AgI.turnG (H : AgI B T w0 cb N cs L M x z W) (hg : GAt W' L y) (ht : Turn (L.own x.js.length) W W') (hn : y.js.length = x.js.length) : AgI B T w0 cb N cs L M y z W' :=
  ⟨hg, H.h.turn ht (fun i hi ho => by
    have h1 := H.far i (by rw [← H.hn]; exact hi)
    have h2 := H.sup i (.inl (by rw [← H.gn]; exact ho))
    omega), hn.trans H.gn, H.hn, H.sup, H.own, H.far, H.g.keeps ht _ _ _ H.c (by decide) (by decide) (by decide) (by decide), ht.below (fun i ho => H.own i (by rw [← H.gn]; exact ho)) H.bel H.le.1, H.le⟩
theorem AgI.turnH (H : AgI B T w0 cb N cs L M x z W) (hg : GAt W' M y) (ht : Turn (M.own z.js.length) W W') (hn : y.js.length = z.js.length) : AgI B T w0 cb N cs L M x y W' :=
  ⟨H.g.turn ht (fun i hi ho => by
    have h1 := H.far i (.inl (by rw [← H.hn]; exact ho))
    have h2 := H.sup i (by rw [← H.gn]; exact hi)
    omega), hg, H.gn, hn.trans H.hn, H.sup, H.own, H.far, H.h.keeps ht _ _ _ H.c (by decide) (by decide) (by decide) (by decide), ht.below (fun i ho => Nat.le_trans H.le.2 (H.far i (.inl (by rw [← H.hn]; exact ho)))) H.bel H.le.1, H.le⟩
theorem ag_giveG (H : AgI B T w0 cb N cs L M x z W) (job : Int) (ok : Bool) (t : Int) {ev er : Int} (he : x.give job ok t = (ev, er, y)) : Calls Tryz.prog 10 #[.pointer (some ⟨L.g, 0, none⟩), .int .i64 job, .bool ok, .int .i64 t] W fun e w' => e = .returned (.tuple #[.int .i64 ev, .int .i64 er]) ∧ AgI B T w0 cb N cs L M y z w' :=
  (ggive_ok H.g job ok t).mono fun _ _ ⟨h1, h2, h3⟩ => by
    have hl := Gt.give_len (x := x) (job := job) (now := t) (ok := ok)
    rw [he] at h1 h2 hl
    exact ⟨h1, H.turnG h2 h3 hl⟩
theorem ag_takeG (H : AgI B T w0 cb N cs L M x z W) (job : Int) (t : Int) {er : Int} (he : x.take job t = (er, y)) : Calls Tryz.prog 13 #[.pointer (some ⟨L.g, 0, none⟩), .int .i64 job, .int .i64 t] W fun e w' => e = .returned (.int .i64 er) ∧ AgI B T w0 cb N cs L M y z w' :=
  (gtake_ok H.g job t).mono fun _ _ ⟨h1, h2, h3⟩ => by
    have hl := Gt.take_len (x := x) (job := job) (now := t)
    rw [he] at h1 h2 hl
    exact ⟨h1, H.turnG h2 h3 hl⟩
theorem ag_tripG (H : AgI B T w0 cb N cs L M x z W) (job : Int) (t : Int) {er : Int} (he : x.trip job t = (er, y)) : Calls Tryz.prog 11 #[.pointer (some ⟨L.g, 0, none⟩), .int .i64 job, .int .i64 t] W fun e w' => e = .returned (.int .i64 er) ∧ AgI B T w0 cb N cs L M y z w' :=
  (gtrip_ok H.g job t).mono fun _ _ ⟨h1, h2, h3⟩ => by
    have hl := Gt.switch_len (x := x) (job := job) (now := t) (f := BK.trip)
    rw [show x.switch job t BK.trip = x.trip job t from rfl] at hl
    rw [he] at h1 h2 hl
    exact ⟨h1, H.turnG h2 h3 hl⟩
theorem ag_resetG (H : AgI B T w0 cb N cs L M x z W) (job : Int) (t : Int) {er : Int} (he : x.reset job t = (er, y)) : Calls Tryz.prog 12 #[.pointer (some ⟨L.g, 0, none⟩), .int .i64 job, .int .i64 t] W fun e w' => e = .returned (.int .i64 er) ∧ AgI B T w0 cb N cs L M y z w' :=
  (greset_ok H.g job t).mono fun _ _ ⟨h1, h2, h3⟩ => by
    have hl := Gt.switch_len (x := x) (job := job) (now := t) (f := BK.reset)
    rw [show x.switch job t BK.reset = x.reset job t from rfl] at hl
    rw [he] at h1 h2 hl
    exact ⟨h1, H.turnG h2 h3 hl⟩
theorem ag_whyG (H : AgI B T w0 cb N cs L M x z W) (job : Int) (t : Int) {n er : Int} (he : x.Why job t = (n, er)) : Calls Tryz.prog 19 #[.pointer (some ⟨L.g, 0, none⟩), .int .i64 job, .int .i64 t] W fun e w' => e = .returned (.tuple #[.int .i64 n, .int .i64 er]) ∧ AgI B T w0 cb N cs L M x z w' :=
  (gwhy_ok H.g job t).mono fun _ _ ⟨h1, h2⟩ => by rw [he] at h1; exact ⟨h1, H.below h2⟩
theorem ag_allG (H : AgI B T w0 cb N cs L M x z W) : Calls Tryz.prog 31 #[.pointer (some ⟨L.g, 0, none⟩)] W fun e w' => ∃ v, e = .returned v ∧ StAt w' W.heap.size v x.runsL x.tatsL x.boxesL ∧ AgI B T w0 cb N cs L M x z w' ∧ Below W.heap.size W w' :=
  (gall_ok H.g).mono fun _ _ ⟨⟨v, h1, h2⟩, h3⟩ => ⟨v, h1, h2, H.below h3, h3⟩
theorem ag_giveH (H : AgI B T w0 cb N cs L M x z W) (job : Int) (ok : Bool) (t : Int) {ev er : Int} (he : z.give job ok t = (ev, er, y)) : Calls Tryz.prog 10 #[.pointer (some ⟨M.g, 0, none⟩), .int .i64 job, .bool ok, .int .i64 t] W fun e w' => e = .returned (.tuple #[.int .i64 ev, .int .i64 er]) ∧ AgI B T w0 cb N cs L M x y w' :=
  (ggive_ok H.h job ok t).mono fun _ _ ⟨h1, h2, h3⟩ => by
    have hl := Gt.give_len (x := z) (job := job) (now := t) (ok := ok)
    rw [he] at h1 h2 hl
    exact ⟨h1, H.turnH h2 h3 hl⟩
theorem ag_takeH (H : AgI B T w0 cb N cs L M x z W) (job : Int) (t : Int) {er : Int} (he : z.take job t = (er, y)) : Calls Tryz.prog 13 #[.pointer (some ⟨M.g, 0, none⟩), .int .i64 job, .int .i64 t] W fun e w' => e = .returned (.int .i64 er) ∧ AgI B T w0 cb N cs L M x y w' :=
  (gtake_ok H.h job t).mono fun _ _ ⟨h1, h2, h3⟩ => by
    have hl := Gt.take_len (x := z) (job := job) (now := t)
    rw [he] at h1 h2 hl
    exact ⟨h1, H.turnH h2 h3 hl⟩
theorem ag_tripH (H : AgI B T w0 cb N cs L M x z W) (job : Int) (t : Int) {er : Int} (he : z.trip job t = (er, y)) : Calls Tryz.prog 11 #[.pointer (some ⟨M.g, 0, none⟩), .int .i64 job, .int .i64 t] W fun e w' => e = .returned (.int .i64 er) ∧ AgI B T w0 cb N cs L M x y w' :=
  (gtrip_ok H.h job t).mono fun _ _ ⟨h1, h2, h3⟩ => by
    have hl := Gt.switch_len (x := z) (job := job) (now := t) (f := BK.trip)
    rw [show z.switch job t BK.trip = z.trip job t from rfl] at hl
    rw [he] at h1 h2 hl
    exact ⟨h1, H.turnH h2 h3 hl⟩
theorem ag_resetH (H : AgI B T w0 cb N cs L M x z W) (job : Int) (t : Int) {er : Int} (he : z.reset job t = (er, y)) : Calls Tryz.prog 12 #[.pointer (some ⟨M.g, 0, none⟩), .int .i64 job, .int .i64 t] W fun e w' => e = .returned (.int .i64 er) ∧ AgI B T w0 cb N cs L M x y w' :=
  (greset_ok H.h job t).mono fun _ _ ⟨h1, h2, h3⟩ => by
    have hl := Gt.switch_len (x := z) (job := job) (now := t) (f := BK.reset)
    rw [show z.switch job t BK.reset = z.reset job t from rfl] at hl
    rw [he] at h1 h2 hl
    exact ⟨h1, H.turnH h2 h3 hl⟩
theorem ag_whyH (H : AgI B T w0 cb N cs L M x z W) (job : Int) (t : Int) {n er : Int} (he : z.Why job t = (n, er)) : Calls Tryz.prog 19 #[.pointer (some ⟨M.g, 0, none⟩), .int .i64 job, .int .i64 t] W fun e w' => e = .returned (.tuple #[.int .i64 n, .int .i64 er]) ∧ AgI B T w0 cb N cs L M x z w' :=
  (gwhy_ok H.h job t).mono fun _ _ ⟨h1, h2⟩ => by rw [he] at h1; exact ⟨h1, H.below h2⟩
theorem ag_allH (H : AgI B T w0 cb N cs L M x z W) : Calls Tryz.prog 31 #[.pointer (some ⟨M.g, 0, none⟩)] W fun e w' => ∃ v, e = .returned v ∧ StAt w' W.heap.size v z.runsL z.tatsL z.boxesL ∧ AgI B T w0 cb N cs L M x z w' ∧ Below W.heap.size W w' :=
  (gall_ok H.h).mono fun _ _ ⟨⟨v, h1, h2⟩, h3⟩ => ⟨v, h1, h2, H.below h3, h3⟩
theorem ag_equal {B1 B2 : Nat} {v v' : Value} {rs ts : List Int} {bs : List BxQ} (w : World) (h : StAt w B1 v rs ts bs) (h' : StAt w B2 v' rs ts bs) (hl : rs.length ≤ 9223372036854775806 ∧ ts.length ≤ 9223372036854775806 ∧ bs.length ≤ 9223372036854775806) : Calls Tryz.prog 37 #[v, v'] w fun e w' => e = .returned (.bool true) ∧ Below w.heap.size w w' :=
  (gequal_ok w h h' hl hl).mono fun _ _ ⟨h1, h2⟩ => ⟨by rw [h1]; simp, h2⟩
end
theorem bxs_self (x : Gt) : x.boxesL.map bsT = x.js.map (bsOf ·.bx) := by
  unfold Gt.boxesL
  rw [List.map_map]
  rfl
/-- What is restored with all of a gate's own state. -/
theorem again_rs {G : Gl} {LL : JL} {x : Gt} {now : Int} (hC : CfOk G LL) (hi : x.Inv) (hp : PolOk G LL x) (hs : Sm x now) (ht : timeB now = true) : ∃ z, rsR G LL x.runsL x.tatsL x.boxesL now = (some z, 0) ∧ GtA x z now := by
  obtain ⟨z, h1, h2⟩ := rs_self (g := G) (L := LL) hi hp.cap hp.t hp.tau hp.n hp.js (fun j hj => ⟨hs.br j hj, (hs.js j hj).1.2, (hs.js j hj).2.2.1⟩) hs.both.2 hs.last ht hp.tot
  refine ⟨z, ?_, h2⟩
  unfold rsR
  rw [if_neg (by rw [cfE_zero.2 hC]; simp), if_neg (by rw [ht]; simp), bxs_self, h1]
theorem st_len (x : Gt) (hn : x.js.length ≤ 64) : x.runsL.length ≤ 9223372036854775806 ∧ x.tatsL.length ≤ 9223372036854775806 ∧ x.boxesL.length ≤ 9223372036854775806 := by
  unfold Gt.runsL Gt.tatsL Gt.boxesL
  simp only [List.length_map, List.length_cons]
  omega
set_option maxRecDepth 100000 in
set_option maxHeartbeats 4000000 in
theorem again_walk (a : Option Addr) (rs : List Rl) (n c lim tau most : Nat) (ma : Option Addr) (ms : List Mv) (mn mc : Nat) (mb_ : Option Addr) (ms2 : List Mv) (mn2 mc2 later : Nat) (hn : rs.length = n) (hnc : n ≤ c) (h9 : n ≤ 9223372036854775807) (h1 : lim < 256) (h2 : tau < 256) (h3 : most < 256) (hmn : ms.length = mn) (hmc : mn ≤ mc) (hm9 : mn ≤ 9223372036854775807) (hmn2 : ms2.length = mn2) (hmc2 : mn2 ≤ mc2) (hm92 : mn2 ≤ 9223372036854775807) (h6 : later < 256) (w : World) (hR : RulesAt w a rs) (hM : MovesAt w ma ms) (hM2 : MovesAt w mb_ ms2) (hT : SpTab w) (hTab : Tab w) :
    Calls Tryz.prog 7 #[.slice a n c, .int .u8 lim, .int .u8 tau, .int .u8 most, .slice ma mn mc, .slice mb_ mn2 mc2, .int .u8 later] w fun e w' => e = .returned (.bool true) ∧ Below w.heap.size w w' := by
  have TT := Lib.hid (fun W (hb : Below w.heap.size w W) => And.intro (hT.below hb) (tab_below hTab hb (tab_lt hTab)))
  have HM := Lib.hid (fun W (hb : Below w.heap.size w W) => MovesAt.below hM hb)
  have HM2 := Lib.hid (fun W (hb : Below w.heap.size w W) => MovesAt.below hM2 hb)
  have HMN := Lib.hid hmn
  have HMN2 := Lib.hid hmn2
  have MD := Lib.hid (made_any rs a n c hn lim tau most h1 h2 h3 h9 hnc w hR)
  clear hT hTab hM hM2 hR hn hmn hmn2
  go_enter Tryz.func7, Tryz.ntmps7
  go_wp2_with fail
  refine (MD.out).mono ?_
  rintro e_ w1 ⟨qs, m, g, c', hq, hm0, hm4, rfl, ho, hb⟩
  have O1 := Lib.hid ho
  have B1 := Lib.hid hb
  have HQ := Lib.hid hq
  clear ho hb MD hq
  go_upto_region 2 with fail
  obtain ⟨W2, hW2⟩ : ∃ W2, W2 = w1.alloc (.cells #[.int .i64 (1 + (most : Int) % 8), .int .i64 1, .int .i64 0, .int .i64 1, .int .u64 0, .int .i64 (smT lim), .int .i64 (smA lim tau), .slice (some ⟨g, 0, none⟩) m c'] 31) := ⟨_, rfl⟩
  have hb2 : Below w1.heap.size w1 W2 := by rw [hW2]; exact (Below.refl _ _).alloc (Nat.le_refl _) _
  have O2 := Lib.hid (own_below O1.out hb2)
  have C2 : Hid (Blk W2 w1.heap.size 31 #[.int .i64 (1 + (most : Int) % 8), .int .i64 1, .int .i64 0, .int .i64 1, .int .u64 0, .int .i64 (smT lim), .int .i64 (smA lim tau), .slice (some ⟨g, 0, none⟩) m c']) := Lib.hid (by rw [hW2]; exact Blk.new _ _ _)
  have B2 := Lib.hid (B1.out.trans (hb2.mono B1.out.size))
  rw [← hW2]
  generalize w1.heap.size = cb at *
  clear hW2 hb2 O1 B1
  have k0 : W2.cell? ⟨cb, 0, none⟩ = some (.int .i64 (1 + (most : Int) % 8)) := C2.out.cell 0
  have k1 : W2.cell? ⟨cb, 1, none⟩ = some (.int .i64 1) := C2.out.cell 1
  have k2 : W2.cell? ⟨cb, 2, none⟩ = some (.int .i64 0) := C2.out.cell 2
  have k3 : W2.cell? ⟨cb, 3, none⟩ = some (.int .i64 1) := C2.out.cell 3
  have k4 : W2.cell? ⟨cb, 4, none⟩ = some (.int .u64 0) := C2.out.cell 4
  have k5 : W2.cell? ⟨cb, 5, none⟩ = some (.int .i64 (smT lim)) := C2.out.cell 5
  have k6 : W2.cell? ⟨cb, 6, none⟩ = some (.int .i64 (smA lim tau)) := C2.out.cell 6
  have k7 : W2.cell? ⟨cb, 7, none⟩ = some (.slice (some ⟨g, 0, none⟩) m c') := C2.out.cell 7
  have HCF : Hid (CfOk (madeG lim tau most) (madeFrom 0 qs)) := Lib.hid (made_cfok qs (by rw [HQ.out]; exact hm4) lim tau most)
  have AF := Lib.hid (after_okI (PolOk (madeG lim tau most) (madeFrom 0 qs)) (pol_cl _ _) (madeG lim tau most) (madeFrom 0 qs) (some ⟨g, 0, none⟩) m c' hm0 hm4 (by rw [madeFrom_len]; exact HQ.out) ma ms mn mc HMN.out hmc hm9 W2 (made_arg O2.out HQ.out hm4 (TT.out W2 B2.out).1 (TT.out W2 B2.out).2) HCF.out (pol_new HCF.out) (sm_made qs lim tau most) (HM.out W2 B2.out))
  go_wp2_with fail
  refine (AF.out).mono ?_
  rintro e_ w3 ⟨Y, x, now, rfl, hg, hs, hxn, hpol, hlo, hhi⟩
  obtain ⟨tn, HTN⟩ : ∃ tn : Int, Hid (now + (later : Int) = tn) := ⟨_, Lib.hid rfl⟩
  have htn : 50 ≤ tn ∧ tn ≤ 585 := by have := HTN.out; omega
  have HG3 : Hid (GHas w.heap.size w w3 Y x) := Lib.hid ⟨hg.g, B2.out.trans (hg.bel.mono B2.out.size), fun i hi => Nat.le_trans B2.out.size (hg.own i hi), Nat.le_refl _⟩
  have HSM : Hid (Sm x tn) := Lib.hid (hs.later (by have := HTN.out; omega))
  have C3 := Lib.hid (C2.out.below hg.bel C2.out.lt)
  have O3 := Lib.hid (own_below O2.out hg.bel)
  have HXN := Lib.hid hxn
  have HPO := Lib.hid hpol
  clear hg hs hxn hpol AF C2 O2 HM HMN k0 k1 k2 k3 k4 k5 k6 k7
  have hsu := HTN.out
  have hw1 : IntKind.i64.wrap (now + (later : Int)) = tn := by rw [IntWalk.i64_in _ (by omega)]; exact hsu
  go_upto_region 6 with fail
  clear hsu hw1
  go_wp2_with fail
  refine (gall_ok HG3.out.g).mono ?_
  rintro e_ w4 ⟨⟨v, rfl, hst⟩, hb⟩
  obtain ⟨a1, q1, a2, q2, a3, q3, rfl, r1, r2, r3⟩ := hst.e
  have HG4 := Lib.hid (HG3.out.below hb)
  have C4 := Lib.hid (C3.out.below hb C3.out.lt)
  have O4 := Lib.hid (own_below O3.out hb)
  have RR := Lib.hid (And.intro r1 (And.intro r2 r3))
  have ST4 := Lib.hid hst
  clear hst r1 r2 r3 hb HG3 C3 O3
  go_upto_region 7 with fail
  obtain ⟨W5, hW5⟩ : ∃ W5, W5 = w4.alloc (.cells #[.slice a1 x.runsL.length q1, .slice a2 x.tatsL.length q2, .slice a3 x.boxesL.length q3] 91) := ⟨_, rfl⟩
  have hb5 : Below w4.heap.size w4 W5 := by rw [hW5]; exact (Below.refl _ _).alloc (Nat.le_refl _) _
  have S5 : Hid (Blk W5 w4.heap.size 91 #[.slice a1 x.runsL.length q1, .slice a2 x.tatsL.length q2, .slice a3 x.boxesL.length q3]) := Lib.hid (by rw [hW5]; exact Blk.new _ _ _)
  have HG5 := Lib.hid (HG4.out.below hb5)
  have C5 := Lib.hid (C4.out.below hb5 C4.out.lt)
  have O5 := Lib.hid (own_below O4.out hb5)
  have ST5 := Lib.hid (ST4.out.below hb5)
  have R1 := Lib.hid (Row1.ofI (RR.out.1.below hb5))
  have R2 := Lib.hid (Row1.of (RR.out.2.1.below hb5))
  have R3 := Lib.hid (Row4.of (RR.out.2.2.below hb5))
  rw [← hW5]
  generalize w4.heap.size = sb at *
  clear hW5 hb5 HG4 C4 O4 RR ST4
  have htb : timeB tn = true := timeB_iff.2 (by omega)
  obtain ⟨z, hz1, hz2⟩ := again_rs HCF.out HG5.out.g.inv HPO.out HSM.out htb
  have RS_ := Lib.hid (grest_ok (madeG lim tau most) (madeFrom 0 qs) (some ⟨g, 0, none⟩) m c' a1 a2 a3 _ q1 _ q2 _ q3 x.runsL x.tatsL x.boxesL tn W5 (by rw [madeFrom_len]; exact HQ.out) (made_arg O5.out HQ.out hm4 (TT.out W5 HG5.out.bel).1 (TT.out W5 HG5.out.bel).2) rfl rfl rfl R1.out R2.out R3.out)
  rw [hz1] at RS_
  have HRZ := Lib.hid hz2
  clear hz1 hz2 htb R1 R2 R3 O5
  have k0 : W5.cell? ⟨cb, 0, none⟩ = some (.int .i64 (1 + (most : Int) % 8)) := C5.out.cell 0
  have k1 : W5.cell? ⟨cb, 1, none⟩ = some (.int .i64 1) := C5.out.cell 1
  have k2 : W5.cell? ⟨cb, 2, none⟩ = some (.int .i64 0) := C5.out.cell 2
  have k3 : W5.cell? ⟨cb, 3, none⟩ = some (.int .i64 1) := C5.out.cell 3
  have k4 : W5.cell? ⟨cb, 4, none⟩ = some (.int .u64 0) := C5.out.cell 4
  have k5 : W5.cell? ⟨cb, 5, none⟩ = some (.int .i64 (smT lim)) := C5.out.cell 5
  have k6 : W5.cell? ⟨cb, 6, none⟩ = some (.int .i64 (smA lim tau)) := C5.out.cell 6
  have k7 : W5.cell? ⟨cb, 7, none⟩ = some (.slice (some ⟨g, 0, none⟩) m c') := C5.out.cell 7
  have s0 : W5.cell? ⟨sb, 0, none⟩ = some (.slice a1 x.runsL.length q1) := S5.out.cell 0
  have s1 : W5.cell? ⟨sb, 1, none⟩ = some (.slice a2 x.tatsL.length q2) := S5.out.cell 1
  have s2 : W5.cell? ⟨sb, 2, none⟩ = some (.slice a3 x.boxesL.length q3) := S5.out.cell 2
  go_wp2_with fail
  refine (RS_.out).mono ?_
  rintro e_ w6 ⟨hb, M, rfl, hgz, hsz⟩
  obtain ⟨T, hT_⟩ : ∃ T, T = W5.heap.size := ⟨_, rfl⟩
  have I6 : Hid (AgI w.heap.size T w cb m #[.int .i64 (1 + (most : Int) % 8), .int .i64 1, .int .i64 0, .int .i64 1, .int .u64 0, .int .i64 (smT lim), .int .i64 (smA lim tau), .slice (some ⟨g, 0, none⟩) m c'] Y M x z w6) := Lib.hid (by
    have h1 := HG5.out.bel.size
    have hzn : z.js.length = m := HRZ.out.len.symm.trans HXN.out
    rw [hzn] at hsz
    exact ⟨HG5.out.g.below hb, hgz, HXN.out, hzn, fun i hi => by rw [hT_]; exact HG5.out.g.lt (by rw [HXN.out]; exact hi), fun i hi => HG5.out.own i (by rw [HXN.out]; exact hi), fun i hi => by rw [hT_]; exact hsz i hi, C5.out.below hb C5.out.lt, HG5.out.bel.trans (hb.mono h1), ⟨Nat.le_refl _, by omega⟩⟩)
  have S6 := Lib.hid (S5.out.below hb S5.out.lt)
  have ST6 := Lib.hid (ST5.out.below hb)
  clear hb hgz hsz hT_ RS_ k0 k1 k2 k3 k4 k5 k6 k7 s0 s1 s2 HG5 C5 S5 ST5 HXN HPO HSM HQ HCF B2
  have HI6 := Lib.hid (I6.out.below (Below.refl _ w6).drew)
  have HS6 := Lib.hid (S6.out.below (Below.refl _ w6).drew S6.out.lt)
  have s0 : w6.drew.cell? ⟨sb, 0, none⟩ = some (.slice a1 x.runsL.length q1) := HS6.out.cell 0
  have s1 : w6.drew.cell? ⟨sb, 1, none⟩ = some (.slice a2 x.tatsL.length q2) := HS6.out.cell 1
  have s2 : w6.drew.cell? ⟨sb, 2, none⟩ = some (.slice a3 x.boxesL.length q3) := HS6.out.cell 2
  have ST7 := Lib.hid (ST6.out.below (Below.refl _ w6).drew)
  have CA := Lib.hid (ag_allH HI6.out)
  clear I6 S6 ST6
  go_upto_region 8 with fail
  go_region_held3 (fun w' => w'.cell? ⟨sb, 0, none⟩ = some (.slice a1 x.runsL.length q1) ∧ w'.cell? ⟨sb, 1, none⟩ = some (.slice a2 x.tatsL.length q2) ∧ w'.cell? ⟨sb, 2, none⟩ = some (.slice a3 x.boxesL.length q3)) (go_keep)
    (first
      | (go_at_call 31; (with_reducible refine CA.out.mono ?_); rintro e w8 ⟨v2, rfl, hs2, h, hb⟩; have I8 := Lib.hid h; have HS8 := Lib.hid (HS6.out.below hb HS6.out.lt); have ST8 := Lib.hid (ST7.out.below hb); have s0' : w8.cell? ⟨sb, 0, none⟩ = some (.slice a1 x.runsL.length q1) := HS8.out.cell 0; have s1' : w8.cell? ⟨sb, 1, none⟩ = some (.slice a2 x.tatsL.length q2) := HS8.out.cell 1; have s2' : w8.cell? ⟨sb, 2, none⟩ = some (.slice a3 x.boxesL.length q3) := HS8.out.cell 2; rw [← HRZ.out.runsL, ← HRZ.out.tatsL, ← HRZ.out.boxesL] at hs2; have CE := Lib.hid (ag_equal w8 hs2 ST8.out (st_len x I8.out.g.inv.n)); clear h hb hs2)
      | (go_at_call 37; (with_reducible refine CE.out.mono ?_); rintro e w9 ⟨rfl, hb⟩; have I9 := Lib.hid (I8.out.below hb); have s0'' : w9.cell? ⟨sb, 0, none⟩ = some (.slice a1 x.runsL.length q1) := (HS8.out.below hb HS8.out.lt).cell 0; have s1'' : w9.cell? ⟨sb, 1, none⟩ = some (.slice a2 x.tatsL.length q2) := (HS8.out.below hb HS8.out.lt).cell 1; have s2'' : w9.cell? ⟨sb, 2, none⟩ = some (.slice a3 x.boxesL.length q3) := (HS8.out.below hb HS8.out.lt).cell 2; clear hb))
  clear s0 s1 s2 HI6 HS6 ST7 CA
  have R9 : Hid (GtA x z tn) := HRZ
  obtain ⟨mm, HMM⟩ : ∃ mm, Hid (mm = min mn2 40) := ⟨_, Lib.hid rfl⟩
  have hm : min (mn2 : Int) 40 = (mm : Int) := by have := HMM.out; omega
  have hmc3 : mm ≤ mc2 := by have := HMM.out; omega
  have hmn3 : mm ≤ mn2 := by have := HMM.out; omega
  have hm40 : mm ≤ 40 := by have := HMM.out; omega
  have hNz : ((m : Int) == 0) = false := by rw [beq_eq_false_iff_ne]; omega
  go_wp2_with fail
  go_loopw [17, 81] (fun s17 s81 wr => ∃ k : Nat, k ≤ mm ∧ s81 = .int .i64 k ∧ ∃ (now : Int) (x z : Gt), s17 = .int .i64 now ∧ AgI w.heap.size T w cb m #[.int .i64 (1 + (most : Int) % 8), .int .i64 1, .int .i64 0, .int .i64 1, .int .u64 0, .int .i64 (smT lim), .int .i64 (smA lim tau), .slice (some ⟨g, 0, none⟩) m c'] Y M x z wr ∧ GtA x z now ∧ 0 ≤ now ∧ now ≤ 585 + 7 * (k : Int)) (fun _ s81 _ => mm - intA s81)
  case atStart => exact ⟨0, Nat.zero_le _, rfl, tn, _, _, rfl, I9.out, R9.out, by omega, by omega⟩
  case round =>
    obtain ⟨k, hk, rfl, now, x, z, rfl, hI, hR, hnow⟩ := hrel
    have HI := Lib.hid hI
    have HR := Lib.hid hR
    clear hI hR I9 R9 hm
    rcases Nat.lt_or_ge k mm with hlt | hge
    · have hkl : k < ms2.length := by rw [HMN2.out]; omega
      obtain ⟨b, off, hmb, hcl, hok⟩ := (HM2.out wr HI.out.bel) k hkl
      obtain ⟨mv, hmv⟩ : ∃ mv, ms2[k] = mv := ⟨_, rfl⟩
      rw [hmv] at hcl hok
      rw [hmb]
      have c0 : wr.cell? ⟨b, off + k * 3, none⟩ = some (.int .u8 mv.ah) := hcl 0 (by decide)
      have c1 : wr.cell? ⟨b, off + k * 3 + 1, none⟩ = some (.int .u8 mv.job) := hcl 1 (by decide)
      have c2 : wr.cell? ⟨b, off + k * 3 + 2, none⟩ = some (.int .u8 mv.kind) := hcl 2 (by decide)
      obtain ⟨ho1, ho2, ho3⟩ := hok
      clear hcl hmv hkl hmb
      obtain ⟨t, HT⟩ : ∃ t : Int, Hid (now + (mv.ah : Int) % 8 = t) := ⟨_, Lib.hid rfl⟩
      have ht1 : now ≤ t := by have := HT.out; omega
      have ht3 : 0 ≤ t ∧ t ≤ 585 + 7 * ((k : Int) + 1) := by have := HT.out; omega
      go_upto_region 13 with fail
      obtain ⟨X1, hX1⟩ : ∃ X1, X1 = wr.alloc (.cells #[.int .u8 mv.ah, .int .u8 mv.job, .int .u8 mv.kind] 42) := ⟨_, rfl⟩
      have hbX : Below wr.heap.size wr X1 := by rw [hX1]; exact (Below.refl _ _).alloc (Nat.le_refl _) _
      have MB : Hid (Blk X1 wr.heap.size 42 #[.int .u8 mv.ah, .int .u8 mv.job, .int .u8 mv.kind]) := Lib.hid (by rw [hX1]; exact Blk.new _ _ _)
      have I2 := Lib.hid (HI.out.below hbX)
      rw [← hX1]
      generalize wr.heap.size = mb at *
      clear hX1 hbX c0 c1 c2 HI
      have d0 : X1.cell? ⟨mb, 0, none⟩ = some (.int .u8 mv.ah) := MB.out.cell 0
      have d1 : X1.cell? ⟨mb, 1, none⟩ = some (.int .u8 mv.job) := MB.out.cell 1
      have d2 : X1.cell? ⟨mb, 2, none⟩ = some (.int .u8 mv.kind) := MB.out.cell 2
      have k7 : X1.cell? ⟨cb, 7, none⟩ = some (.slice (some ⟨g, 0, none⟩) m c') := I2.out.c.cell 7
      have hs := HT.out
      have hw1 : IntKind.i64.wrap (now + (mv.ah : Int) % 8) = t := by rw [IntWalk.i64_in _ (by omega)]; exact hs
      go_upto_region 14 with fail
      clear hs hw1
      have hjm : (mv.job : Int) % (m : Int) < 4 ∧ 0 ≤ (mv.job : Int) % (m : Int) := by
        have h1 := Int.emod_lt_of_pos (mv.job : Int) (show (0 : Int) < (m : Int) by omega)
        have h2 := Int.emod_nonneg (mv.job : Int) (show (m : Int) ≠ 0 by omega)
        omega
      go_upto_region 15 with fail
      obtain ⟨jv, hjv⟩ : ∃ jv : Int, jv = (mv.job : Int) % (m : Int) := ⟨_, rfl⟩
      have hk16 : (mv.kind : Int) % 16 < 16 ∧ 0 ≤ (mv.kind : Int) % 16 := by omega
      rw [← hjv] at hjm ⊢
      rcases Nat.lt_or_ge (mv.kind % 16) 5 with hk5 | hk5
      · have q5 : decide ((mv.kind : Int) % 16 < 5) = true := by simp; omega
        clear hjv
        obtain ⟨ev, er, x2, z2, he1, he2, hrel⟩ := HR.out.give ht1 jv (decide ((mv.kind : Int) % 16 < 3))
        have HE1 := Lib.hid he1
        have HE2 := Lib.hid he2
        have HRL := Lib.hid hrel
        clear he1 he2 hrel HR
        go_wp2_with fail
        refine (ag_giveG I2.out jv (decide ((mv.kind : Int) % 16 < 3)) t HE1.out).mono ?_
        rintro e_ X2 ⟨rfl, h⟩
        have I3 := Lib.hid h
        clear h I2
        go_wp2_with fail
        refine (ag_giveH I3.out jv (decide ((mv.kind : Int) % 16 < 3)) t HE2.out).mono ?_
        rintro e_ X3 ⟨rfl, h⟩
        have I4 := Lib.hid h
        clear h I3
        obtain ⟨nn, er3, hw1⟩ : ∃ nn er3, x2.Why jv t = (nn, er3) := ⟨_, _, rfl⟩
        have hw2 : z2.Why jv t = (nn, er3) := by rw [← HRL.out.Why (Int.le_refl _) jv]; exact hw1
        have HW1 := Lib.hid hw1
        have HW2 := Lib.hid hw2
        clear hw1 hw2
        go_wp2_with fail
        refine (ag_whyG I4.out jv t HW1.out).mono ?_
        rintro e_ Xa ⟨rfl, h⟩
        have Ia := Lib.hid h
        clear h I4
        go_wp2_with fail
        refine (ag_whyH Ia.out jv t HW2.out).mono ?_
        rintro e_ Xb ⟨rfl, h⟩
        have Ib := Lib.hid h
        clear h Ia
        go_wp2_with fail
        refine (ag_allG Ib.out).mono ?_
        rintro e_ Xc ⟨v1, rfl, hs1, h, -⟩
        have Ic := Lib.hid h
        have S1 := Lib.hid hs1
        clear h hs1 Ib
        go_wp2_with fail
        refine (ag_allH Ic.out).mono ?_
        rintro e_ Xd ⟨v2, rfl, hs2, h, hb⟩
        have Id := Lib.hid h
        have S1' := Lib.hid (S1.out.below hb)
        rw [← HRL.out.runsL, ← HRL.out.tatsL, ← HRL.out.boxesL] at hs2
        have S2 := Lib.hid hs2
        clear h hs2 hb Ic S1
        go_wp2_with fail
        refine (ag_equal Xd S1'.out S2.out (st_len x2 Id.out.g.inv.n)).mono ?_
        rintro e_ Xe ⟨rfl, hb⟩
        have Ie := Lib.hid (Id.out.below hb)
        clear hb Id S1' S2
        go_wp2_with fail
        refine ⟨⟨k + 1, by omega, by go_num, t, _, _, rfl, Ie.out, HRL.out, by omega⟩, ?_⟩
        simp [intA]; omega
      · have q5 : decide ((mv.kind : Int) % 16 < 5) = false := by simp; omega
        rcases Nat.eq_or_lt_of_le hk5 with he5 | he5
        · have e5 : ((mv.kind : Int) % 16 == 5) = true := by rw [beq_iff_eq]; omega
          clear hjv he5 hk5
          obtain ⟨er, x2, z2, he1, he2, hrel⟩ := HR.out.trip ht1 jv
          have HE1 := Lib.hid he1
          have HE2 := Lib.hid he2
          have HRL := Lib.hid hrel
          clear he1 he2 hrel HR
          go_wp2_with fail
          refine (ag_tripG I2.out jv t HE1.out).mono ?_
          rintro e_ X2 ⟨rfl, h⟩
          have I3 := Lib.hid h
          clear h I2
          go_wp2_with fail
          refine (ag_tripH I3.out jv t HE2.out).mono ?_
          rintro e_ X3 ⟨rfl, h⟩
          have I4 := Lib.hid h
          clear h I3
          obtain ⟨nn, er3, hw1⟩ : ∃ nn er3, x2.Why jv t = (nn, er3) := ⟨_, _, rfl⟩
          have hw2 : z2.Why jv t = (nn, er3) := by rw [← HRL.out.Why (Int.le_refl _) jv]; exact hw1
          have HW1 := Lib.hid hw1
          have HW2 := Lib.hid hw2
          clear hw1 hw2
          go_wp2_with fail
          refine (ag_whyG I4.out jv t HW1.out).mono ?_
          rintro e_ Xa ⟨rfl, h⟩
          have Ia := Lib.hid h
          clear h I4
          go_wp2_with fail
          refine (ag_whyH Ia.out jv t HW2.out).mono ?_
          rintro e_ Xb ⟨rfl, h⟩
          have Ib := Lib.hid h
          clear h Ia
          go_wp2_with fail
          refine (ag_allG Ib.out).mono ?_
          rintro e_ Xc ⟨v1, rfl, hs1, h, -⟩
          have Ic := Lib.hid h
          have S1 := Lib.hid hs1
          clear h hs1 Ib
          go_wp2_with fail
          refine (ag_allH Ic.out).mono ?_
          rintro e_ Xd ⟨v2, rfl, hs2, h, hb⟩
          have Id := Lib.hid h
          have S1' := Lib.hid (S1.out.below hb)
          rw [← HRL.out.runsL, ← HRL.out.tatsL, ← HRL.out.boxesL] at hs2
          have S2 := Lib.hid hs2
          clear h hs2 hb Ic S1
          go_wp2_with fail
          refine (ag_equal Xd S1'.out S2.out (st_len x2 Id.out.g.inv.n)).mono ?_
          rintro e_ Xe ⟨rfl, hb⟩
          have Ie := Lib.hid (Id.out.below hb)
          clear hb Id S1' S2
          go_wp2_with fail
          refine ⟨⟨k + 1, by omega, by go_num, t, _, _, rfl, Ie.out, HRL.out, by omega⟩, ?_⟩
          simp [intA]; omega
        · have e5 : ((mv.kind : Int) % 16 == 5) = false := by rw [beq_eq_false_iff_ne]; omega
          rcases Nat.eq_or_lt_of_le he5 with he6 | he6
          · have e6 : ((mv.kind : Int) % 16 == 6) = true := by rw [beq_iff_eq]; omega
            clear hjv he6 he5 hk5
            obtain ⟨er, x2, z2, he1, he2, hrel⟩ := HR.out.reset ht1 jv
            have HE1 := Lib.hid he1
            have HE2 := Lib.hid he2
            have HRL := Lib.hid hrel
            clear he1 he2 hrel HR
            go_wp2_with fail
            refine (ag_resetG I2.out jv t HE1.out).mono ?_
            rintro e_ X2 ⟨rfl, h⟩
            have I3 := Lib.hid h
            clear h I2
            go_wp2_with fail
            refine (ag_resetH I3.out jv t HE2.out).mono ?_
            rintro e_ X3 ⟨rfl, h⟩
            have I4 := Lib.hid h
            clear h I3
            obtain ⟨nn, er3, hw1⟩ : ∃ nn er3, x2.Why jv t = (nn, er3) := ⟨_, _, rfl⟩
            have hw2 : z2.Why jv t = (nn, er3) := by rw [← HRL.out.Why (Int.le_refl _) jv]; exact hw1
            have HW1 := Lib.hid hw1
            have HW2 := Lib.hid hw2
            clear hw1 hw2
            go_wp2_with fail
            refine (ag_whyG I4.out jv t HW1.out).mono ?_
            rintro e_ Xa ⟨rfl, h⟩
            have Ia := Lib.hid h
            clear h I4
            go_wp2_with fail
            refine (ag_whyH Ia.out jv t HW2.out).mono ?_
            rintro e_ Xb ⟨rfl, h⟩
            have Ib := Lib.hid h
            clear h Ia
            go_wp2_with fail
            refine (ag_allG Ib.out).mono ?_
            rintro e_ Xc ⟨v1, rfl, hs1, h, -⟩
            have Ic := Lib.hid h
            have S1 := Lib.hid hs1
            clear h hs1 Ib
            go_wp2_with fail
            refine (ag_allH Ic.out).mono ?_
            rintro e_ Xd ⟨v2, rfl, hs2, h, hb⟩
            have Id := Lib.hid h
            have S1' := Lib.hid (S1.out.below hb)
            rw [← HRL.out.runsL, ← HRL.out.tatsL, ← HRL.out.boxesL] at hs2
            have S2 := Lib.hid hs2
            clear h hs2 hb Ic S1
            go_wp2_with fail
            refine (ag_equal Xd S1'.out S2.out (st_len x2 Id.out.g.inv.n)).mono ?_
            rintro e_ Xe ⟨rfl, hb⟩
            have Ie := Lib.hid (Id.out.below hb)
            clear hb Id S1' S2
            go_wp2_with fail
            refine ⟨⟨k + 1, by omega, by go_num, t, _, _, rfl, Ie.out, HRL.out, by omega⟩, ?_⟩
            simp [intA]; omega
          · have e6 : ((mv.kind : Int) % 16 == 6) = false := by rw [beq_eq_false_iff_ne]; omega
            clear hjv he6 he5 hk5
            obtain ⟨er, x2, z2, he1, he2, hrel⟩ := HR.out.take ht1 jv
            have HE1 := Lib.hid he1
            have HE2 := Lib.hid he2
            have HRL := Lib.hid hrel
            clear he1 he2 hrel HR
            go_wp2_with fail
            refine (ag_takeG I2.out jv t HE1.out).mono ?_
            rintro e_ X2 ⟨rfl, h⟩
            have I3 := Lib.hid h
            clear h I2
            go_wp2_with fail
            refine (ag_takeH I3.out jv t HE2.out).mono ?_
            rintro e_ X3 ⟨rfl, h⟩
            have I4 := Lib.hid h
            clear h I3
            obtain ⟨nn, er3, hw1⟩ : ∃ nn er3, x2.Why jv t = (nn, er3) := ⟨_, _, rfl⟩
            have hw2 : z2.Why jv t = (nn, er3) := by rw [← HRL.out.Why (Int.le_refl _) jv]; exact hw1
            have HW1 := Lib.hid hw1
            have HW2 := Lib.hid hw2
            clear hw1 hw2
            go_wp2_with fail
            refine (ag_whyG I4.out jv t HW1.out).mono ?_
            rintro e_ Xa ⟨rfl, h⟩
            have Ia := Lib.hid h
            clear h I4
            go_wp2_with fail
            refine (ag_whyH Ia.out jv t HW2.out).mono ?_
            rintro e_ Xb ⟨rfl, h⟩
            have Ib := Lib.hid h
            clear h Ia
            go_wp2_with fail
            refine (ag_allG Ib.out).mono ?_
            rintro e_ Xc ⟨v1, rfl, hs1, h, -⟩
            have Ic := Lib.hid h
            have S1 := Lib.hid hs1
            clear h hs1 Ib
            go_wp2_with fail
            refine (ag_allH Ic.out).mono ?_
            rintro e_ Xd ⟨v2, rfl, hs2, h, hb⟩
            have Id := Lib.hid h
            have S1' := Lib.hid (S1.out.below hb)
            rw [← HRL.out.runsL, ← HRL.out.tatsL, ← HRL.out.boxesL] at hs2
            have S2 := Lib.hid hs2
            clear h hs2 hb Ic S1
            go_wp2_with fail
            refine (ag_equal Xd S1'.out S2.out (st_len x2 Id.out.g.inv.n)).mono ?_
            rintro e_ Xe ⟨rfl, hb⟩
            have Ie := Lib.hid (Id.out.below hb)
            clear hb Id S1' S2
            go_wp2_with fail
            refine ⟨⟨k + 1, by omega, by go_num, t, _, _, rfl, Ie.out, HRL.out, by omega⟩, ?_⟩
            simp [intA]; omega
    · obtain rfl : mm = k := by omega
      go_wp2_with fail
      refine (aworks_ok _ (TT.out _ HI.out.bel).1 (TT.out _ HI.out.bel).2).mono ?_
      rintro e_ X9 ⟨rfl, hb⟩
      have BE := Lib.hid (HI.out.bel.trans (hb.mono HI.out.bel.size))
      clear hb
      go_wp2_with fail
      go_ret
      exact ⟨rfl, BE.out⟩
end Go.Proofs.YtpgckpafjiojfaaGreatDoor.AD
