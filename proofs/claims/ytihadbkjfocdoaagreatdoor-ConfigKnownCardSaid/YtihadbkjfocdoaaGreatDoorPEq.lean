/- Contracts of the comparisons of plans. -/
import Derived.Test.YtihadbkjfocdoaaGreatDoorPSame
namespace Go.Proofs.YtihadbkjfocdoaaGreatDoor.BW
open Go.RowKit BM Go.Shelf MC RK
open BK hiding ret_bool ret_i64
section
attribute [local go_sem] Oper.semAt_some
def xeq (x y : Ex) : Bool := (x.s == y.s) && (x.mi == y.mi) && (x.h == y.h) && (x.d == y.d) && (x.mo == y.mo) && (x.w == y.w) && (x.ad == y.ad) && (x.aw == y.aw)
def eeq (x y : Ev) : Bool := (x.s == y.s) && (x.p == y.p) && (x.c == y.c)
theorem xeq_run (x y : Ex) (w : World) : (binOp .eql 47 (.agg #[.int .u64 x.s, .int .u64 x.mi, .int .u64 x.h, .int .u64 x.d, .int .u64 x.mo, .int .u64 x.w, .bool x.ad, .bool x.aw]) (.agg #[.int .u64 y.s, .int .u64 y.mi, .int .u64 y.h, .int .u64 y.d, .int .u64 y.mo, .int .u64 y.w, .bool y.ad, .bool y.aw])).run Tryz.prog w = .ok (.bool (xeq x y)) w := by
  have h1 : Tryz.prog.underlying 47 = some (.struct (Tryz.prog.fieldsOf 47)) := by kernel_rfl
  have h2 : Tryz.prog.stoodInHeld 47 = false := by kernel_rfl
  rw [run_eql_struct, run_equalIn_agg _ _ _ _ _ h1 h2]
  simp [go_sem, xeq]
  by_cases e0 : x.s = y.s
  case neg => have f0 : ¬ ((x.s : Int) = (y.s : Int)) := fun h => e0 (Int.ofNat_inj.1 h); simp [f0, e0]
  try simp only [e0, if_true]
  by_cases e1 : x.mi = y.mi
  case neg => have f1 : ¬ ((x.mi : Int) = (y.mi : Int)) := fun h => e1 (Int.ofNat_inj.1 h); simp [f1, e1]
  try simp only [e1, if_true]
  by_cases e2 : x.h = y.h
  case neg => have f2 : ¬ ((x.h : Int) = (y.h : Int)) := fun h => e2 (Int.ofNat_inj.1 h); simp [f2, e2]
  try simp only [e2, if_true]
  by_cases e3 : x.d = y.d
  case neg => have f3 : ¬ ((x.d : Int) = (y.d : Int)) := fun h => e3 (Int.ofNat_inj.1 h); simp [f3, e3]
  try simp only [e3, if_true]
  by_cases e4 : x.mo = y.mo
  case neg => have f4 : ¬ ((x.mo : Int) = (y.mo : Int)) := fun h => e4 (Int.ofNat_inj.1 h); simp [f4, e4]
  try simp only [e4, if_true]
  by_cases e5 : x.w = y.w
  case neg => have f5 : ¬ ((x.w : Int) = (y.w : Int)) := fun h => e5 (Int.ofNat_inj.1 h); simp [f5, e5]
  try simp only [e5, if_true]
  by_cases e6 : x.ad = y.ad
  case neg => simp [e6]
  try simp only [e6, if_true]
  by_cases e7 : x.aw = y.aw
  case neg => simp [e7]
  try simp only [e7, if_true]
  try simp
theorem xne_run (x y : Ex) (w : World) : (binOp .neq 47 (.agg #[.int .u64 x.s, .int .u64 x.mi, .int .u64 x.h, .int .u64 x.d, .int .u64 x.mo, .int .u64 x.w, .bool x.ad, .bool x.aw]) (.agg #[.int .u64 y.s, .int .u64 y.mi, .int .u64 y.h, .int .u64 y.d, .int .u64 y.mo, .int .u64 y.w, .bool y.ad, .bool y.aw])).run Tryz.prog w = .ok (.bool (!xeq x y)) w := by
  have h1 : Tryz.prog.underlying 47 = some (.struct (Tryz.prog.fieldsOf 47)) := by kernel_rfl
  have h2 : Tryz.prog.stoodInHeld 47 = false := by kernel_rfl
  rw [run_neq_struct, run_equalIn_agg _ _ _ _ _ h1 h2]
  simp [go_sem, xeq]
  by_cases e0 : x.s = y.s
  case neg => have f0 : ¬ ((x.s : Int) = (y.s : Int)) := fun h => e0 (Int.ofNat_inj.1 h); simp [f0, e0]
  try simp only [e0, if_true]
  by_cases e1 : x.mi = y.mi
  case neg => have f1 : ¬ ((x.mi : Int) = (y.mi : Int)) := fun h => e1 (Int.ofNat_inj.1 h); simp [f1, e1]
  try simp only [e1, if_true]
  by_cases e2 : x.h = y.h
  case neg => have f2 : ¬ ((x.h : Int) = (y.h : Int)) := fun h => e2 (Int.ofNat_inj.1 h); simp [f2, e2]
  try simp only [e2, if_true]
  by_cases e3 : x.d = y.d
  case neg => have f3 : ¬ ((x.d : Int) = (y.d : Int)) := fun h => e3 (Int.ofNat_inj.1 h); simp [f3, e3]
  try simp only [e3, if_true]
  by_cases e4 : x.mo = y.mo
  case neg => have f4 : ¬ ((x.mo : Int) = (y.mo : Int)) := fun h => e4 (Int.ofNat_inj.1 h); simp [f4, e4]
  try simp only [e4, if_true]
  by_cases e5 : x.w = y.w
  case neg => have f5 : ¬ ((x.w : Int) = (y.w : Int)) := fun h => e5 (Int.ofNat_inj.1 h); simp [f5, e5]
  try simp only [e5, if_true]
  by_cases e6 : x.ad = y.ad
  case neg => simp [e6]
  try simp only [e6, if_true]
  by_cases e7 : x.aw = y.aw
  case neg => simp [e7]
  try simp only [e7, if_true]
  try simp
theorem eeq_run (x y : Ev) (w : World) : (binOp .eql 49 (.agg #[.int .i64 x.s, .int .i64 x.p, .int .i64 x.c]) (.agg #[.int .i64 y.s, .int .i64 y.p, .int .i64 y.c])).run Tryz.prog w = .ok (.bool (eeq x y)) w := by
  have h1 : Tryz.prog.underlying 49 = some (.struct (Tryz.prog.fieldsOf 49)) := by kernel_rfl
  have h2 : Tryz.prog.stoodInHeld 49 = false := by kernel_rfl
  rw [run_eql_struct, run_equalIn_agg _ _ _ _ _ h1 h2]
  simp [go_sem, eeq]
  by_cases e0 : x.s = y.s
  case neg => simp [e0]
  try simp only [e0, if_true]
  by_cases e1 : x.p = y.p
  case neg => simp [e1]
  try simp only [e1, if_true]
  by_cases e2 : x.c = y.c
  case neg => simp [e2]
  try simp only [e2, if_true]
  try simp
theorem ene_run (x y : Ev) (w : World) : (binOp .neq 49 (.agg #[.int .i64 x.s, .int .i64 x.p, .int .i64 x.c]) (.agg #[.int .i64 y.s, .int .i64 y.p, .int .i64 y.c])).run Tryz.prog w = .ok (.bool (!eeq x y)) w := by
  have h1 : Tryz.prog.underlying 49 = some (.struct (Tryz.prog.fieldsOf 49)) := by kernel_rfl
  have h2 : Tryz.prog.stoodInHeld 49 = false := by kernel_rfl
  rw [run_neq_struct, run_equalIn_agg _ _ _ _ _ h1 h2]
  simp [go_sem, eeq]
  by_cases e0 : x.s = y.s
  case neg => simp [e0]
  try simp only [e0, if_true]
  by_cases e1 : x.p = y.p
  case neg => simp [e1]
  try simp only [e1, if_true]
  by_cases e2 : x.c = y.c
  case neg => simp [e2]
  try simp only [e2, if_true]
  try simp
theorem sne_run (a b c d : Int) (w : World) : (binOp .neq 66 (.agg #[.int .i64 a, .int .i64 b]) (.agg #[.int .i64 c, .int .i64 d])).run Tryz.prog w = .ok (.bool (!((a == c) && (b == d)))) w := by
  have h1 : Tryz.prog.underlying 66 = some (.struct (Tryz.prog.fieldsOf 66)) := by kernel_rfl
  have h2 : Tryz.prog.stoodInHeld 66 = false := by kernel_rfl
  rw [run_neq_struct, run_equalIn_agg _ _ _ _ _ h1 h2]
  simp [go_sem]
  by_cases e0 : a = c
  case neg => simp [e0]
  try simp only [e0, if_true]
  by_cases e1 : b = d
  case neg => simp [e1]
  try simp only [e1, if_true]
  try simp
end
theorem seq_take {l m : List (Int × Int)} {k : Nat} (h1 : k < l.length) (h2 : k < m.length) (h : l.take k = m.take k) (he : ((l[k].1 == m[k].1) && (l[k].2 == m[k].2)) = true) : l.take (k + 1) = m.take (k + 1) := by
  have e : l[k] = m[k] := by
    rw [Bool.and_eq_true, beq_iff_eq, beq_iff_eq] at he
    exact Prod.ext he.1 he.2
  rw [List.take_add_one, List.take_add_one, List.getElem?_eq_getElem h1, List.getElem?_eq_getElem h2, h, e]
theorem seq_not {l m : List (Int × Int)} {k : Nat} (h1 : k < l.length) (h2 : k < m.length) (he : ((l[k].1 == m[k].1) && (l[k].2 == m[k].2)) = false) : decide (l = m) = false := by
  apply decide_eq_false
  rintro rfl
  simp at he
set_option maxHeartbeats 2000000 in
set_option maxRecDepth 8000 in
theorem seq_ok (l m : List (Int × Int)) (a b : Option Addr) (n c n2 c2 : Nat) (hn : l.length = n) (hn2 : m.length = n2) (h9 : n ≤ 200) (h92 : n2 ≤ 9223372036854775807) (w : World) (h : SpansAt w a l) (h2 : SpansAt w b m) : Calls Tryz.prog 50 #[.slice a n c, .slice b n2 c2] w fun e w' => e = .returned (.bool (decide (l = m))) ∧ Below w.heap.size w w' := by
  by_cases hnn : n = n2
  · subst hnn
    have HN := Lib.hid hn
    have HN2 := Lib.hid hn2
    have HA := Lib.hid h
    have HB := Lib.hid h2
    clear hn hn2 h h2
    go_enter Tryz.func50, Tryz.ntmps50
    go_wp2_with fail
    go_loopw [13] (fun s13 wr => ∃ k : Nat, s13 = .int .i64 k ∧ k ≤ n ∧ Hid (l.take k = m.take k) ∧ Below w.heap.size w wr) (fun s13 _ => n - (intOf s13).toNat)
    case atStart => exact ⟨0, rfl, Nat.zero_le _, Lib.hid rfl, Below.refl _ _⟩
    case round =>
      obtain ⟨k, rfl, hk, HT, hB⟩ := hrel
      have HW := Lib.hid hB
      have HA' := Lib.hid (HA.out.below hB)
      have HB' := Lib.hid (HB.out.below hB)
      clear hB
      by_cases hkn : k < n
      · have hk1 : k < l.length := by rw [HN.out]; exact hkn
        have hk2 : k < m.length := by rw [HN2.out]; exact hkn
        obtain ⟨b1, o1, rfl, p1, p2⟩ := HA'.out k hk1
        obtain ⟨b2, o2, rfl, p3, p4⟩ := HB'.out k hk2
        have hw1 : IntKind.i64.wrap ((k : Int) + 1) = (k : Int) + 1 := IntWalk.i64_in _ (by omega)
        have HY := Lib.hid (fun he => seq_take hk1 hk2 HT.out he)
        have HX := Lib.hid (fun he => seq_not hk1 hk2 he)
        generalize l[k] = x at *
        generalize m[k] = y at *
        have hq : ∀ w, (binOp .neq 66 (.agg #[.int .i64 x.1, .int .i64 x.2]) (.agg #[.int .i64 y.1, .int .i64 y.2])).run Tryz.prog w = .ok (.bool (!((x.1 == y.1) && (x.2 == y.2)))) w := sne_run _ _ _ _
        have hg : Tryz.prog.eqGuardType Tryz.prog.depth 66 = false := by kernel_rfl
        obtain ⟨q, hq0⟩ : ∃ q, ((x.1 == y.1) && (x.2 == y.2)) = q := ⟨_, rfl⟩
        rw [hq0] at hq HX HY
        clear hq0 hk1 hk2
        cases q with
        | true =>
          go_wp2_with fail
          go_quiet (fail)
          go_wp2_with fail
          refine ⟨⟨k + 1, rfl, by omega, Lib.hid (HY.out trivial), below_drewN HW.out nq⟩, ?_⟩
          show n - (k + 1) < n - k
          omega
        | false =>
          go_wp2_with fail
          go_quiet (fail)
          go_wp2_with fail
          go_ret
          exact ⟨ret_bool (HX.out trivial).symm, below_drewN HW.out nq⟩
      · obtain rfl : k = n := by omega
        have HE : Hid (decide (l = m) = true) := Lib.hid (decide_eq_true (by
          have := HT.out
          rwa [List.take_of_length_le (by rw [HN.out]; exact Nat.le_refl _), List.take_of_length_le (by rw [HN2.out]; exact Nat.le_refl _)] at this))
        go_wp2_with fail
        go_ret
        exact ⟨ret_bool HE.out.symm, HW.out⟩
  · have hd : Hid (decide (l = m) = false) := Lib.hid (decide_eq_false (by rintro rfl; exact hnn (hn.symm.trans hn2)))
    have hnn' : ¬ (n : Int) = (n2 : Int) := by omega
    clear hn hn2 h h2
    go_enter Tryz.func50, Tryz.ntmps50
    go_wp2_with fail
    go_ret
    exact ⟨ret_bool hd.out.symm, Below.refl _ _⟩
/-- Whether two plans are the same. -/
def eqP (p q : Pl) (l m : List (Int × Int)) : Bool := (p.k == q.k) && xeq p.x q.x && (p.z == q.z) && eeq p.e q.e && decide (l = m)
theorem eqP_with (p : Pl) (a : Option Addr) (c : Nat) (l : List (Int × Int)) : eqP p (p.withS a c) l l = true := by simp [eqP, Pl.withS, xeq, eeq]
theorem PIn.below {w w' : World} {p : Pl} {l : List (Int × Int)} (h : PIn w p l) (hb : Below w.heap.size w w') : PIn w' p l := ⟨h.x, h.n, h.at_.below hb⟩
set_option maxHeartbeats 4000000 in
set_option maxRecDepth 8000 in
theorem pleq_ok (p q : Pl) (l m : List (Int × Int)) (w : World) (hp : PIn w p l) (hq : PIn w q m) (h9 : p.n ≤ 200) (h92 : q.n ≤ 200) : Calls Tryz.prog 35 #[.agg (plV p), .agg (plV q)] w fun e w' => e = .returned (.bool (eqP p q l m)) ∧ Below w.heap.size w w' := by
  have hB1 : Below w.heap.size w ((w.alloc (.cells (plV p) 52)).alloc (.cells (plV q) 52)) := ((Below.refl _ w).alloc (Nat.le_refl _) _).alloc (by simp) _
  have CE := Lib.hid (seq_ok l m p.a q.a p.n p.c q.n q.c hp.n hq.n h9 (by omega) _ (hp.at_.below hB1) (hq.at_.below hB1))
  have HB1 := Lib.hid hB1
  have ex := fun w => xeq_run p.x q.x w
  have ee := fun w => eeq_run p.e q.e w
  have hg : Tryz.prog.eqGuardType Tryz.prog.depth 47 = false := by kernel_rfl
  have hg2 : Tryz.prog.eqGuardType Tryz.prog.depth 49 = false := by kernel_rfl
  obtain ⟨bk, hbk⟩ : ∃ b, (p.k == q.k) = b := ⟨_, rfl⟩
  obtain ⟨bz, hbz⟩ : ∃ b, (p.z == q.z) = b := ⟨_, rfl⟩
  have HR : Hid (eqP p q l m = (bk && xeq p.x q.x && bz && eeq p.e q.e && decide (l = m))) := Lib.hid (by rw [← hbk, ← hbz]; rfl)
  generalize eqP p q l m = R at *
  generalize decide (l = m) = bl at *
  generalize xeq p.x q.x = bx at *
  generalize eeq p.e q.e = be at *
  clear hB1 hp hq h9 h92
  have e0 : plV p = #[.int .i64 p.k, .int .u64 p.x.s, .int .u64 p.x.mi, .int .u64 p.x.h, .int .u64 p.x.d, .int .u64 p.x.mo, .int .u64 p.x.w, .bool p.x.ad, .bool p.x.aw, .int .i64 p.z, .int .i64 p.e.s, .int .i64 p.e.p, .int .i64 p.e.c, .slice p.a p.n p.c] := rfl
  have e1 : plV q = #[.int .i64 q.k, .int .u64 q.x.s, .int .u64 q.x.mi, .int .u64 q.x.h, .int .u64 q.x.d, .int .u64 q.x.mo, .int .u64 q.x.w, .bool q.x.ad, .bool q.x.aw, .int .i64 q.z, .int .i64 q.e.s, .int .i64 q.e.p, .int .i64 q.e.c, .slice q.a q.n q.c] := rfl
  rw [e0, e1] at CE HB1 ⊢
  clear e0 e1
  obtain ⟨pk, ⟨s, mi, h, d, mo, wk, ad, aw⟩, pz, ⟨es, ep, ec⟩, pa, pn, pc⟩ := p
  obtain ⟨qk, ⟨s2, mi2, h2, d2, mo2, wk2, ad2, aw2⟩, qz, ⟨es2, ep2, ec2⟩, qa, qn, qc⟩ := q
  simp only at *
  have hdk : decide (pk = qk) = bk := by rw [← hbk]; rfl
  have hdz : decide (pz = qz) = bz := by rw [← hbz]; rfl
  cases bk with
  | false =>
    go_enter Tryz.func35, Tryz.ntmps35
    go_wp2_with fail
    go_ret
    exact ⟨ret_bool (by rw [HR.out]; simp), HB1.out⟩
  | true =>
    cases bx with
    | false =>
      go_enter Tryz.func35, Tryz.ntmps35
      go_wp2_with fail
      go_ret
      exact ⟨ret_bool (by rw [HR.out]; simp), HB1.out⟩
    | true =>
      cases bz with
      | false =>
        go_enter Tryz.func35, Tryz.ntmps35
        go_wp2_with fail
        go_ret
        exact ⟨ret_bool (by rw [HR.out]; simp), HB1.out⟩
      | true =>
        cases be with
        | false =>
          go_enter Tryz.func35, Tryz.ntmps35
          go_wp2_with fail
          go_ret
          exact ⟨ret_bool (by rw [HR.out]; simp), HB1.out⟩
        | true =>
          go_enter Tryz.func35, Tryz.ntmps35
          go_wp2_with fail
          refine (CE.out).mono ?_
          rintro e_ w2 ⟨rfl, hb⟩
          have HB2 := Lib.hid (HB1.out.trans (hb.mono HB1.out.size))
          clear hb CE
          go_wp2_with fail
          go_ret
          exact ⟨ret_bool (by rw [HR.out]; simp), HB2.out⟩
structure EqI (p q : Pl) (w : World) (W : World) : Prop where
  bx : Blk W w.heap.size 52 (plV p)
  by_ : Blk W (w.heap.size + 1) 52 (plV q)
  below : Below w.heap.size w W
set_option maxHeartbeats 8000000 in
set_option maxRecDepth 8000 in
theorem req_ok (p q : Pl) (l m : List (Int × Int)) (w : World) (hp : PIn w p l) (hq : PIn w q m) (h9 : p.n ≤ 200) (h92 : q.n ≤ 200) : Calls Tryz.prog 36 #[.agg (plV p), .agg (plV q)] w fun e w' => e = .returned (.bool (eqP p q l m)) ∧ Below w.heap.size w w' := by
  have HI0 : Hid (EqI p q w ((w.alloc (.cells (plV p) 52)).alloc (.cells (plV q) 52))) := Lib.hid ⟨(Blk.new w _ _).alloc _, Blk.newAt (by simp), ((Below.refl _ w).alloc (Nat.le_refl _) _).alloc (by simp) _⟩
  have HP := Lib.hid hp
  have HQ := Lib.hid hq
  have ex := fun w => xne_run p.x q.x w
  have ee := fun w => ene_run p.e q.e w
  have hg : Tryz.prog.eqGuardType Tryz.prog.depth 47 = false := by kernel_rfl
  have hg2 : Tryz.prog.eqGuardType Tryz.prog.depth 49 = false := by kernel_rfl
  have hg3 : Tryz.prog.eqGuardType Tryz.prog.depth 66 = false := by kernel_rfl
  obtain ⟨bk, hbk⟩ : ∃ b, (p.k == q.k) = b := ⟨_, rfl⟩
  obtain ⟨bz, hbz⟩ : ∃ b, (p.z == q.z) = b := ⟨_, rfl⟩
  have HR : Hid (eqP p q l m = (bk && xeq p.x q.x && bz && eeq p.e q.e && decide (l = m))) := Lib.hid (by rw [← hbk, ← hbz]; rfl)
  generalize eqP p q l m = R at *
  generalize xeq p.x q.x = bx at *
  generalize eeq p.e q.e = be at *
  clear hp hq
  have e0 : plV p = #[.int .i64 p.k, .int .u64 p.x.s, .int .u64 p.x.mi, .int .u64 p.x.h, .int .u64 p.x.d, .int .u64 p.x.mo, .int .u64 p.x.w, .bool p.x.ad, .bool p.x.aw, .int .i64 p.z, .int .i64 p.e.s, .int .i64 p.e.p, .int .i64 p.e.c, .slice p.a p.n p.c] := rfl
  have e1 : plV q = #[.int .i64 q.k, .int .u64 q.x.s, .int .u64 q.x.mi, .int .u64 q.x.h, .int .u64 q.x.d, .int .u64 q.x.mo, .int .u64 q.x.w, .bool q.x.ad, .bool q.x.aw, .int .i64 q.z, .int .i64 q.e.s, .int .i64 q.e.p, .int .i64 q.e.c, .slice q.a q.n q.c] := rfl
  rw [e0, e1] at HI0 ⊢
  clear e0 e1
  have hbk' : decide (p.k = q.k) = bk := by rw [← hbk]; rfl
  have hbz' : decide (p.z = q.z) = bz := by rw [← hbz]; rfl
  have hbk2 : (p.k != q.k) = !bk := by rw [← hbk]; rfl
  have hbz2 : (p.z != q.z) = !bz := by rw [← hbz]; rfl
  cases bk with
  | false =>
    go_enter Tryz.func36, Tryz.ntmps36
    go_wp2_with fail
    go_ret
    exact ⟨ret_bool (by rw [HR.out]; simp), HI0.out.below⟩
  | true =>
    cases bx with
    | false =>
      go_enter Tryz.func36, Tryz.ntmps36
      go_wp2_with fail
      go_ret
      exact ⟨ret_bool (by rw [HR.out]; simp), HI0.out.below⟩
    | true =>
      cases bz with
      | false =>
        go_enter Tryz.func36, Tryz.ntmps36
        go_wp2_with fail
        go_ret
        exact ⟨ret_bool (by rw [HR.out]; simp), HI0.out.below⟩
      | true =>
        cases be with
        | false =>
          go_enter Tryz.func36, Tryz.ntmps36
          go_wp2_with fail
          go_ret
          exact ⟨ret_bool (by rw [HR.out]; simp), HI0.out.below⟩
        | true =>
          have HR2 : Hid (R = decide (l = m)) := Lib.hid (by rw [HR.out]; simp)
          clear HR
          by_cases hnn : p.n = q.n
          · have HQN : Hid (m.length = p.n) := Lib.hid (by rw [hnn]; exact HQ.out.n)
            obtain ⟨qk, ⟨s2, mi2, h2, d2, mo2, wk2, ad2, aw2⟩, qz, ⟨es2, ep2, ec2⟩, qa, qn, qc⟩ := q
            simp only at *
            subst hnn
            go_enter Tryz.func36, Tryz.ntmps36
            go_wp2_with fail
            go_loopw [5] (fun s5 wr => ∃ k : Nat, s5 = .int .i64 k ∧ k ≤ p.n ∧ Hid (l.take k = m.take k) ∧ EqI p ⟨qk, ⟨s2, mi2, h2, d2, mo2, wk2, ad2, aw2⟩, qz, ⟨es2, ep2, ec2⟩, qa, p.n, qc⟩ w wr) (fun s5 _ => p.n - (intOf s5).toNat)
            case atStart => exact ⟨0, rfl, Nat.zero_le _, Lib.hid rfl, HI0.out⟩
            case round =>
              clear HI0
              obtain ⟨k, rfl, hk, HT, hI⟩ := hrel
              have HI := Lib.hid hI
              have HA' := Lib.hid (HP.out.at_.below hI.below)
              have HB' := Lib.hid (HQ.out.at_.below hI.below)
              have p13 : wr.cell? ⟨w.heap.size, 13, none⟩ = some (.slice p.a p.n p.c) := hI.bx.cell 13
              have q13 : wr.cell? ⟨w.heap.size + 1, 13, none⟩ = some (.slice qa p.n qc) := hI.by_.cell 13
              clear hI
              by_cases hkn : k < p.n
              · have hk1 : k < l.length := by rw [HP.out.n]; exact hkn
                have hk2 : k < m.length := by rw [HQN.out]; exact hkn
                obtain ⟨b1, o1, ha, p1, p2⟩ := HA'.out k hk1
                obtain ⟨b2, o2, hb, p3, p4⟩ := HB'.out k hk2
                rw [ha] at p13
                replace hb : qa = some ⟨b2, o2, none⟩ := hb
                rw [hb] at q13
                have hw1 : IntKind.i64.wrap ((k : Int) + 1) = (k : Int) + 1 := IntWalk.i64_in _ (by omega)
                have HY := Lib.hid (fun he => seq_take hk1 hk2 HT.out he)
                have HX := Lib.hid (fun he => seq_not hk1 hk2 he)
                generalize l[k] = x at *
                generalize m[k] = y at *
                have hq : ∀ w, (binOp .neq 66 (.agg #[.int .i64 x.1, .int .i64 x.2]) (.agg #[.int .i64 y.1, .int .i64 y.2])).run Tryz.prog w = .ok (.bool (!((x.1 == y.1) && (x.2 == y.2)))) w := sne_run _ _ _ _
                obtain ⟨qq, hq0⟩ : ∃ q, ((x.1 == y.1) && (x.2 == y.2)) = q := ⟨_, rfl⟩
                rw [hq0] at hq HX HY
                clear hq0 hk1 hk2 ha hb
                cases qq with
                | true =>
                  go_wp2_with fail
                  go_quiet (fail)
                  go_wp2_with fail
                  refine ⟨⟨k + 1, rfl, by omega, Lib.hid (HY.out trivial), HI.out.bx.drewN nq, HI.out.by_.drewN nq, below_drewN HI.out.below nq⟩, ?_⟩
                  show p.n - (k + 1) < p.n - k
                  omega
                | false =>
                  go_wp2_with fail
                  go_quiet (fail)
                  go_wp2_with fail
                  go_ret
                  exact ⟨ret_bool (by rw [HR2.out]; exact (HX.out trivial).symm), below_drewN HI.out.below nq⟩
              · obtain rfl : k = p.n := by omega
                have HE : Hid (decide (l = m) = true) := Lib.hid (decide_eq_true (by
                  have := HT.out
                  rwa [List.take_of_length_le (by rw [HP.out.n]; exact Nat.le_refl _), List.take_of_length_le (by rw [HQN.out]; exact Nat.le_refl _)] at this))
                clear hkn
                go_wp2_with fail
                go_ret
                exact ⟨ret_bool (by rw [HR2.out]; exact HE.out.symm), HI.out.below⟩
          · have hd : Hid (decide (l = m) = false) := Lib.hid (decide_eq_false (by rintro rfl; exact hnn (HP.out.n.symm.trans HQ.out.n)))
            have hnn' : ¬ (p.n : Int) = (q.n : Int) := by omega
            go_enter Tryz.func36, Tryz.ntmps36
            go_wp2_with fail
            go_ret
            exact ⟨ret_bool (by rw [HR2.out]; exact hd.out.symm), HI0.out.below⟩
end Go.Proofs.YtihadbkjfocdoaaGreatDoor.BW
