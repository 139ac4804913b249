/- The iterator of a plan's times: its contract. Contract of plan.Next. Contract of plan.List. Contract of plan.Count. -/
import Derived.Test.YtihadbkjfocdoaaGreatDoorPBo
import Derived.StillTailTactics
import Derived.Test.YtihadbkjfocdoaaGreatDoorMNext
import Derived.Test.YtihadbkjfocdoaaGreatDoorMList
namespace Go.Proofs.YtihadbkjfocdoaaGreatDoor.BW
open Go.RowKit BM Go.Shelf MC RK
open BK hiding ret_bool ret_i64

attribute [local go_sem] Oper.semAt_some

/-- What lay there stays. -/
def Old (w W : World) : Prop := ∀ k, k < w.heap.size → W.heap[k]? = w.heap[k]?
theorem Old.cell {w W : World} (h : Old w W) {b o : Nat} {v : Value} (hc : w.cell? ⟨b, o, none⟩ = some v) : W.cell? ⟨b, o, none⟩ = some v :=
  (World.cell?_of_block (h b (World.block_lt_of_cell? w _ hc))).trans hc
theorem Old.of_below {w W : World} (h : Below w.heap.size w W) : Old w W := fun k hk => h.block k hk
theorem SpansAt.old {w W : World} {a : Option Addr} {l : List (Int × Int)} (h : SpansAt w a l) (ho : Old w W) : SpansAt W a l := fun k hk => by
  obtain ⟨b, off, e, h1, h2⟩ := h k hk
  exact ⟨b, off, e, ho.cell h1, ho.cell h2⟩
theorem tab_old {w W : World} (h : Tab w) (ho : Old w W) : Tab W := fun j hj => ho.cell (h j hj)
theorem SpTab.old {w W : World} (h : SpTab w) (ho : Old w W) : SpTab W := by
  unfold SpTab Lib.TabIs World.var? at *
  cases hg : Tryz.prog.globalNamed "strings.asciiSpace" with
  | none => simp [hg] at h
  | some g =>
    simp only [hg, Option.bind_some] at h ⊢
    have hlt : g < w.heap.size := by
      rcases Nat.lt_or_ge g w.heap.size with h' | h'
      · exact h'
      · rw [Array.getElem?_eq_none h'] at h; simp at h
    rw [ho g hlt]
    exact h
theorem PArg.old {w W : World} {p : Pl} {l : List (Int × Int)} (h : PArg w p l) (ho : Old w W) : PArg W p l := ⟨h.x, h.n, h.n9, h.at_.old ho, h.sp.old ho, tab_old h.tab ho⟩
/-- The functions of a kind, as cells. -/
def kV (f0 f1 f2 f3 : Nat) : Array Value := #[.func (.func f0) #[] #[], .func (.func f1) #[] #[], .func (.func f2) #[] #[], .func (.func f3) #[] #[]]
/-- The blocks that must stay as they are while times are handed out. -/
def KT (B0 pb kb fb : Nat) (k : Nat) : Prop := k < B0 ∨ k = pb ∨ k = kb ∨ k = fb
def KpT (B0 pb kb fb N : Nat) (X Y : World) : Prop := KeepsFrom N X Y ∧ KeepS (KT B0 pb kb fb) X Y
/-- What the iterator has in its blocks. -/
structure TmF (w0 : World) (p : Pl) (V : Array Value) (pb kb fb : Nat) (f : Int) (W : World) : Prop where
  old : Old w0 W
  sz : w0.heap.size ≤ W.heap.size
  p : Blk W pb 52 (plV p)
  k : Blk W kb 91 V
  f : Blk W fb 2 #[.int .i64 f]
section
variable {w0 : World} {p : Pl} {V : Array Value} {pb kb fb : Nat} {f : Int} {X Y : World}
theorem TmF.below (h : TmF w0 p V pb kb fb f X) (hb : Below X.heap.size X Y) : TmF w0 p V pb kb fb f Y :=
  ⟨fun k hk => (hb.block k (Nat.lt_of_lt_of_le hk h.sz)).trans (h.old k hk), Nat.le_trans h.sz hb.size, h.p.below hb h.p.lt, h.k.below hb h.k.lt, h.f.below hb h.f.lt⟩
theorem TmF.keep (h : TmF w0 p V pb kb fb f X) (hk : KeepS (KT w0.heap.size pb kb fb) X Y) (hz : X.heap.size ≤ Y.heap.size) : TmF w0 p V pb kb fb f Y :=
  ⟨fun k hl => (hk k (.inl hl)).trans (h.old k hl), Nat.le_trans h.sz hz, hk.blk h.p (.inr (.inl rfl)), hk.blk h.k (.inr (.inr (.inl rfl))), hk.blk h.f (.inr (.inr (.inr rfl)))⟩
theorem TmF.set (h : TmF w0 p V pb kb fb f X) (h1 : pb ≠ fb) (h2 : kb ≠ fb) (h3 : w0.heap.size ≤ fb) (g : Int) : TmF w0 p V pb kb fb g (X.setCell ⟨fb, 0, none⟩ (.int .i64 g)) :=
  ⟨fun k hk => (Below.heap_setCell X _ _ k (by simp; omega)).trans (h.old k hk), Nat.le_trans h.sz (KeepsWalks.setCell X _ _).size, h.p.far (by simpa using h1) _, h.k.far (by simpa using h2) _, h.f.set_ 0 _⟩
end
set_option maxRecDepth 8000 in
set_option maxHeartbeats 8000000 in
theorem times_in (n : Nat) (p : Pl) (l : List (Int × Int)) (w0 : World) (hA : PArg w0 p l) (f0 f1 f2 f3 : Nat) (hK : KFn p f1 f2 f3) (hs : spE l = 0) (pb kb fb : Nat) (hd1 : pb ≠ fb) (hd2 : kb ≠ fb) (hd3 : w0.heap.size ≤ fb) (f : Int) (hf : 0 ≤ f ∧ f ≤ 253402300800) (L : List Int) (hL : tmsP (isP p l) f 253402300799 = L)
    (lp : Nat) (J Jx : List Int → World → Prop) (W : World) (hF : TmF w0 p (kV f0 f1 f2 f3) pb kb fb f W) (hJ : Closed (fun k => k = fb) W.heap.size J)
    (hY : ∀ pre d W1, J pre W1 → (pre ++ [d]) <+: L → W.heap.size ≤ W1.heap.size → YieldAt Fence.wide (n - 1) Tryz.prog lp #[.int .i64 d] W1 fun e W' =>
      (e = .returned (.bool true) ∧ J (pre ++ [d]) W' ∧ KeepsFrom W.heap.size W1 W' ∧ KeepS (KT w0.heap.size pb kb fb) W1 W') ∨ (e = .returned (.bool false) ∧ Jx (pre ++ [d]) W'))
    (h0 : J [] W) :
    CallsIn Fence.wide n Tryz.prog 53 #[.func (.yield lp) #[] #[], .pointer (some ⟨fb, 0, none⟩), .pointer (some ⟨kb, 0, none⟩), .pointer (some ⟨pb, 0, none⟩)] W fun e W' => (∃ v, e = .returned v) ∧ (J L W' ∨ (∃ pre, pre <+: L ∧ Jx pre W')) := by
  have HF0 := Lib.hid hF
  have HJ0 := Lib.hid h0
  have HL := Lib.hid hL
  have HA := Lib.hid hA
  have HK := Lib.hid hK
  have HSP := Lib.hid hs
  have E1 := hK.e1
  have E2 := hK.e2
  have HFR := Lib.hid (fun c (hc : 0 ≤ c ∧ c ≤ 253402300799) W1 (hw : PArg W1 p l) => free_ok l p.a p.n p.c hw.n hs c hc W1 hw.at_)
  clear hF h0 hL hA hK hs
  refine callsIn_of_wp Tryz.func53 rfl trivial ?_ rfl
  simp only [Tryz.ntmps53, List.size_toArray, List.length_cons, List.length_nil, Nat.reduceAdd, Nat.reduceSub, Array.replicate_succ, Array.replicate_zero, List.push_toArray, List.append_toArray, List.nil_append, List.cons_append]
  refine wpIn_wide.2 ?_
  go_wp2_with fail
  go_loopg [] (253402300800 - f).toNat (fun g wr => ∃ (c : Int) (pre : List Int), (253402300800 - c).toNat ≤ g ∧ (0 ≤ c ∧ c ≤ 253402300800) ∧ W.heap.size ≤ wr.heap.size ∧ pre ++ tmsP (isP p l) c 253402300799 = L ∧ J pre wr ∧ TmF w0 p (kV f0 f1 f2 f3) pb kb fb c wr)
  case atStart => exact ⟨f, [], Nat.le_refl _, hf, Nat.le_refl _, HL.out, HJ0.out, HF0.out⟩
  case round =>
    clear HF0 HJ0 HL hf
    obtain ⟨c, pre, hg, hc, hsz, hpre, hj, hS⟩ := hrel
    have HG := Lib.hid hg
    have HP := Lib.hid hpre
    have HJ := Lib.hid hj
    have HS := Lib.hid hS
    have HZ := Lib.hid hsz
    clear hg hpre hj hS hsz
    have cf : wr.cell? ⟨fb, 0, none⟩ = some (.int .i64 c) := HS.out.f.cell 0
    rcases Int.lt_or_le 253402300799 c with hgt | hle
    · have d0 : decide (c ≤ 253402300799) = false := decide_eq_false (by omega)
      have HE : Hid (J L wr) := Lib.hid (by
        have h := HP.out
        rw [tmsP_nil (fun t h1 h2 => by omega), List.append_nil] at h
        rw [← h]; exact HJ.out)
      clear hgt hc
      go_wp2_with fail
      go_end0
      exact ⟨⟨_, rfl⟩, .inl HE.out⟩
    · have d0 : decide (c ≤ 253402300799) = true := decide_eq_true hle
      have hc2 : 0 ≤ c ∧ c ≤ 253402300799 := ⟨hc.1, hle⟩
      obtain ⟨G, hG⟩ : ∃ G, gk = G + 1 := ⟨gk - 1, by have := HG.out; omega⟩
      subst hG
      have PA := Lib.hid (HA.out.old HS.out.old)
      have C1 := Lib.hid (HK.out.c1 c wr hc2 PA.out.sp PA.out.tab)
      have C2 := Lib.hid (fun w (h : PArg w p l) => HK.out.c2 c w hc2 h.sp h.tab)
      have HC2 := Lib.hid hc2
      have p0 : wr.cell? ⟨pb, 0, none⟩ = some (.int .i64 p.k) := HS.out.p.cell 0
      have p1 : wr.cell? ⟨pb, 1, none⟩ = some (.int .u64 p.x.s) := HS.out.p.cell 1
      have p2 : wr.cell? ⟨pb, 2, none⟩ = some (.int .u64 p.x.mi) := HS.out.p.cell 2
      have p3 : wr.cell? ⟨pb, 3, none⟩ = some (.int .u64 p.x.h) := HS.out.p.cell 3
      have p4 : wr.cell? ⟨pb, 4, none⟩ = some (.int .u64 p.x.d) := HS.out.p.cell 4
      have p5 : wr.cell? ⟨pb, 5, none⟩ = some (.int .u64 p.x.mo) := HS.out.p.cell 5
      have p6 : wr.cell? ⟨pb, 6, none⟩ = some (.int .u64 p.x.w) := HS.out.p.cell 6
      have p7 : wr.cell? ⟨pb, 7, none⟩ = some (.bool p.x.ad) := HS.out.p.cell 7
      have p8 : wr.cell? ⟨pb, 8, none⟩ = some (.bool p.x.aw) := HS.out.p.cell 8
      have p9 : wr.cell? ⟨pb, 9, none⟩ = some (.int .i64 p.z) := HS.out.p.cell 9
      have p10 : wr.cell? ⟨pb, 10, none⟩ = some (.int .i64 p.e.s) := HS.out.p.cell 10
      have p11 : wr.cell? ⟨pb, 11, none⟩ = some (.int .i64 p.e.p) := HS.out.p.cell 11
      have p12 : wr.cell? ⟨pb, 12, none⟩ = some (.int .i64 p.e.c) := HS.out.p.cell 12
      have p13 : wr.cell? ⟨pb, 13, none⟩ = some (.slice p.a p.n p.c) := HS.out.p.cell 13
      have k1 : wr.cell? ⟨kb, 1, none⟩ = some (.func (.func f1) #[] #[]) := HS.out.k.cell 1
      unfold plV at C1
      cases hq : qK p c
      · rw [hq] at C1
        have HQ : Hid (frP (qK p) c = nxP (qK p) c) := Lib.hid (frP_miss hq)
        clear hq hle hc hc2
        go_wp2_with fail
        refine (C1.out).mono ?_
        rintro e_ w2 ⟨rfl, hb2⟩
        have HS2 := Lib.hid (HS.out.below hb2)
        have HJ2 := Lib.hid (hJ _ _ _ HJ.out (RK.Steps.of_below hb2))
        have HZ2 : Hid (W.heap.size ≤ w2.heap.size) := Lib.hid (Nat.le_trans HZ.out hb2.size)
        have PA2 := Lib.hid (HA.out.old HS2.out.old)
        clear hb2 cf k1 p0 p1 p2 p3 p4 p5 p6 p7 p8 p9 p10 p11 p12 p13 HS HJ HZ PA
        have cf : w2.cell? ⟨fb, 0, none⟩ = some (.int .i64 c) := HS2.out.f.cell 0
        have p0 : w2.cell? ⟨pb, 0, none⟩ = some (.int .i64 p.k) := HS2.out.p.cell 0
        have p1 : w2.cell? ⟨pb, 1, none⟩ = some (.int .u64 p.x.s) := HS2.out.p.cell 1
        have p2 : w2.cell? ⟨pb, 2, none⟩ = some (.int .u64 p.x.mi) := HS2.out.p.cell 2
        have p3 : w2.cell? ⟨pb, 3, none⟩ = some (.int .u64 p.x.h) := HS2.out.p.cell 3
        have p4 : w2.cell? ⟨pb, 4, none⟩ = some (.int .u64 p.x.d) := HS2.out.p.cell 4
        have p5 : w2.cell? ⟨pb, 5, none⟩ = some (.int .u64 p.x.mo) := HS2.out.p.cell 5
        have p6 : w2.cell? ⟨pb, 6, none⟩ = some (.int .u64 p.x.w) := HS2.out.p.cell 6
        have p7 : w2.cell? ⟨pb, 7, none⟩ = some (.bool p.x.ad) := HS2.out.p.cell 7
        have p8 : w2.cell? ⟨pb, 8, none⟩ = some (.bool p.x.aw) := HS2.out.p.cell 8
        have p9 : w2.cell? ⟨pb, 9, none⟩ = some (.int .i64 p.z) := HS2.out.p.cell 9
        have p10 : w2.cell? ⟨pb, 10, none⟩ = some (.int .i64 p.e.s) := HS2.out.p.cell 10
        have p11 : w2.cell? ⟨pb, 11, none⟩ = some (.int .i64 p.e.p) := HS2.out.p.cell 11
        have p12 : w2.cell? ⟨pb, 12, none⟩ = some (.int .i64 p.e.c) := HS2.out.p.cell 12
        have p13 : w2.cell? ⟨pb, 13, none⟩ = some (.slice p.a p.n p.c) := HS2.out.p.cell 13
        have k2 : w2.cell? ⟨kb, 2, none⟩ = some (.func (.func f2) #[] #[]) := HS2.out.k.cell 2
        have C3 := Lib.hid (C2.out w2 PA2.out)
        clear C1 C2
        unfold plV at C3
        cases hn : nxP (qK p) c with
        | none =>
          have HE : Hid (J L w2) := Lib.hid (by
            have h := HP.out
            rw [ti_none (HQ.out.trans hn), List.append_nil] at h
            rw [← h]; exact HJ2.out)
          rw [hn] at C3
          clear hn
          simp only [optI, Option.getD_none, Option.isSome_none] at C3
          go_wp2_with fail
          refine (C3.out).mono ?_
          rintro e_ w3 ⟨rfl, hb3⟩
          have HE3 := Lib.hid (hJ _ _ _ HE.out (RK.Steps.of_below hb3))
          clear hb3
          go_wp2_with fail
          refine bodyPost_ret (results_none rfl _ _ _) rfl ?_
          exact ⟨⟨_, rfl⟩, .inl HE3.out⟩
        | some nn =>
          have HN : Hid (frP (qK p) c = some nn) := Lib.hid (HQ.out.trans hn)
          rw [hn] at C3
          clear hn
          simp only [optI, Option.getD_some, Option.isSome_some] at C3
          go_wp2_with fail
          refine (C3.out).mono ?_
          rintro e_ w3 ⟨rfl, hb3⟩
          have HS3 := Lib.hid (HS2.out.below hb3)
          have HJ3 := Lib.hid (hJ _ _ _ HJ2.out (RK.Steps.of_below hb3))
          have HZ3 : Hid (W.heap.size ≤ w3.heap.size) := Lib.hid (Nat.le_trans HZ2.out hb3.size)
          clear hb3 cf k2 p0 p1 p2 p3 p4 p5 p6 p7 p8 p9 p10 p11 p12 p13 HS2 HJ2 HZ2 PA2 C3
          have PA3 := Lib.hid (HA.out.old HS3.out.old)
          have hnn := (frP_some.1 HN.out).1
          have hnn2 : 0 ≤ nn ∧ nn ≤ 253402300799 := ⟨by have := HC2.out; omega, hnn.2.1⟩
          have hnc : c ≤ nn := hnn.1
          have CF := Lib.hid (HFR.out nn hnn2 w3 PA3.out)
          have cf : w3.cell? ⟨fb, 0, none⟩ = some (.int .i64 c) := HS3.out.f.cell 0
          have p13 : w3.cell? ⟨pb, 13, none⟩ = some (.slice p.a p.n p.c) := HS3.out.p.cell 13
          clear hnn
          cases hfr : frP (fun s => !l.any (inS s)) nn with
          | none =>
            have HE : Hid (J L w3) := Lib.hid (by
              have h := HP.out
              rw [ti_shut HN.out hfr, List.append_nil] at h
              rw [← h]; exact HJ3.out)
            rw [hfr] at CF
            clear hfr
            simp only [Option.getD_none, Option.isSome_none] at CF
            go_wp2_with fail
            refine (CF.out).mono ?_
            rintro e_ w4 ⟨rfl, hb4⟩
            have HE4 := Lib.hid (hJ _ _ _ HE.out (RK.Steps.of_below hb4))
            clear hb4
            go_wp2_with fail
            refine bodyPost_ret (results_none rfl _ _ _) rfl ?_
            exact ⟨⟨_, rfl⟩, .inl HE4.out⟩
          | some r =>
            have hr := (frP_some.1 hfr).1
            have hr1 : nn ≤ r := hr.1
            have hr2 : r ≤ 253402300799 := hr.2.1
            have HFRR := Lib.hid hfr
            rw [hfr] at CF
            clear hfr hr
            simp only [Option.getD_some, Option.isSome_some] at CF
            go_wp2_with fail
            refine (CF.out).mono ?_
            rintro e_ w4 ⟨rfl, hb4⟩
            have HS4 := Lib.hid (HS3.out.below hb4)
            have HJ4 := Lib.hid (hJ _ _ _ HJ3.out (RK.Steps.of_below hb4))
            have HZ4 : Hid (W.heap.size ≤ w4.heap.size) := Lib.hid (Nat.le_trans HZ3.out hb4.size)
            clear hb4 cf p13 HS3 HJ3 HZ3 PA3 CF
            have cf : w4.cell? ⟨fb, 0, none⟩ = some (.int .i64 c) := HS4.out.f.cell 0
            have ff : w4.frozen? ⟨fb, 0, none⟩ = false := HS4.out.f.frozen 0
            by_cases hgt : nn < r
            · have d1 : decide (nn < r) = true := decide_eq_true hgt
              have HR2 : Hid (pre ++ tmsP (isP p l) r 253402300799 = L) := Lib.hid (by rw [← ti_free HN.out HFRR.out]; exact HP.out)
              have HM : Hid ((253402300800 - r).toNat ≤ G ∧ (0 ≤ r ∧ r ≤ 253402300800)) := Lib.hid (by have := HG.out; omega)
              clear hgt
              go_wp2_with fail
              go_roundg G
              case measure => omega
              case rel => exact ⟨r, pre, HM.out.1, HM.out.2, Nat.le_trans HZ4.out (KeepsWalks.setCell w4 _ _).size, HR2.out, hJ _ _ _ HJ4.out (RK.Steps.setCell _ _ _ rfl), HS4.out.set hd1 hd2 hd3 r⟩
            · have d1 : decide (nn < r) = false := decide_eq_false hgt
              have HRN : Hid (r = nn) := Lib.hid (by omega)
              have HH := Lib.hid (ti_hit HN.out (by have := HFRR.out; rwa [HRN.out] at this))
              have hpre7 : (pre ++ [nn]) <+: L := by rw [← HP.out, HH.out]; exact ⟨tmsP (isP p l) (nn + 1) 253402300799, by simp⟩
              have HE7 : Hid ((pre ++ [nn]) ++ tmsP (isP p l) (nn + 1) 253402300799 = L) := Lib.hid (by rw [← HP.out, HH.out]; simp)
              have HM : Hid ((253402300800 - (nn + 1)).toNat ≤ G ∧ (0 ≤ nn + 1 ∧ nn + 1 ≤ 253402300800)) := Lib.hid (by have := HG.out; omega)
              have hwr : IntKind.i64.wrap (nn + 1) = nn + 1 := IntWalk.i64_in _ (by omega)
              clear hgt
              go_upto_region 12 with fail
              refine (wpIn_wide (n := 5)).1 ?_
              obtain ⟨fn, tmps, assign, body, hy7, hR⟩ := yieldAt_wide (k := 4) (hY pre nn w4 HJ4.out hpre7 HZ4.out)
              have HP7 := Lib.hid hpre7
              clear hpre7
              gi_wp2_with fail
              refine hR.mono ?_
              rintro e W5 (⟨rfl, hJ5, hk5⟩ | ⟨rfl, hJx5⟩)
              · have HS5 := Lib.hid (HS4.out.keep hk5.2 hk5.1.size)
                have HJ5 := Lib.hid hJ5
                have HZ5 : Hid (W.heap.size ≤ W5.heap.size) := Lib.hid (Nat.le_trans HZ4.out hk5.1.size)
                have cf5 : W5.cell? ⟨fb, 0, none⟩ = some (.int .i64 c) := HS5.out.f.cell 0
                have ff5 : W5.frozen? ⟨fb, 0, none⟩ = false := HS5.out.f.frozen 0
                clear hJ5 hk5 hR hy7 cf ff
                gi_wp2_with fail
                go_wp2_with fail
                go_roundg G
                case measure => omega
                case rel => exact ⟨nn + 1, pre ++ [nn], HM.out.1, HM.out.2, Nat.le_trans HZ5.out (KeepsWalks.setCell W5 _ _).size, HE7.out, hJ _ _ _ HJ5.out (RK.Steps.setCell _ _ _ rfl), HS5.out.set hd1 hd2 hd3 (nn + 1)⟩
              · gi_wp2_with fail
                go_wp2_with fail
                refine bodyPost_ret (results_none rfl _ _ _) rfl ?_
                exact ⟨⟨_, rfl⟩, .inr ⟨_, HP7.out, hJx5⟩⟩
      · rw [hq] at C1
        have HN : Hid (frP (qK p) c = some c) := Lib.hid (frP_hit hq hle)
        clear hq hle hc hc2 C2
        go_wp2_with fail
        refine (C1.out).mono ?_
        rintro e_ w3 ⟨rfl, hb3⟩
        have HS3 := Lib.hid (HS.out.below hb3)
        have HJ3 := Lib.hid (hJ _ _ _ HJ.out (RK.Steps.of_below hb3))
        have HZ3 : Hid (W.heap.size ≤ w3.heap.size) := Lib.hid (Nat.le_trans HZ.out hb3.size)
        clear hb3 cf k1 p0 p1 p2 p3 p4 p5 p6 p7 p8 p9 p10 p11 p12 p13 HS HJ HZ PA C1
        have PA3 := Lib.hid (HA.out.old HS3.out.old)
        have hnn := (frP_some.1 HN.out).1
        have hnn2 : 0 ≤ c ∧ c ≤ 253402300799 := ⟨by have := HC2.out; omega, hnn.2.1⟩
        have hnc : c ≤ c := hnn.1
        have CF := Lib.hid (HFR.out c hnn2 w3 PA3.out)
        have cf : w3.cell? ⟨fb, 0, none⟩ = some (.int .i64 c) := HS3.out.f.cell 0
        have p13 : w3.cell? ⟨pb, 13, none⟩ = some (.slice p.a p.n p.c) := HS3.out.p.cell 13
        clear hnn
        cases hfr : frP (fun s => !l.any (inS s)) c with
        | none =>
          have HE : Hid (J L w3) := Lib.hid (by
            have h := HP.out
            rw [ti_shut HN.out hfr, List.append_nil] at h
            rw [← h]; exact HJ3.out)
          rw [hfr] at CF
          clear hfr
          simp only [Option.getD_none, Option.isSome_none] at CF
          go_wp2_with fail
          refine (CF.out).mono ?_
          rintro e_ w4 ⟨rfl, hb4⟩
          have HE4 := Lib.hid (hJ _ _ _ HE.out (RK.Steps.of_below hb4))
          clear hb4
          go_wp2_with fail
          refine bodyPost_ret (results_none rfl _ _ _) rfl ?_
          exact ⟨⟨_, rfl⟩, .inl HE4.out⟩
        | some r =>
          have hr := (frP_some.1 hfr).1
          have hr1 : c ≤ r := hr.1
          have hr2 : r ≤ 253402300799 := hr.2.1
          have HFRR := Lib.hid hfr
          rw [hfr] at CF
          clear hfr hr
          simp only [Option.getD_some, Option.isSome_some] at CF
          go_wp2_with fail
          refine (CF.out).mono ?_
          rintro e_ w4 ⟨rfl, hb4⟩
          have HS4 := Lib.hid (HS3.out.below hb4)
          have HJ4 := Lib.hid (hJ _ _ _ HJ3.out (RK.Steps.of_below hb4))
          have HZ4 : Hid (W.heap.size ≤ w4.heap.size) := Lib.hid (Nat.le_trans HZ3.out hb4.size)
          clear hb4 cf p13 HS3 HJ3 HZ3 PA3 CF
          have cf : w4.cell? ⟨fb, 0, none⟩ = some (.int .i64 c) := HS4.out.f.cell 0
          have ff : w4.frozen? ⟨fb, 0, none⟩ = false := HS4.out.f.frozen 0
          by_cases hgt : c < r
          · have d1 : decide (c < r) = true := decide_eq_true hgt
            have HR2 : Hid (pre ++ tmsP (isP p l) r 253402300799 = L) := Lib.hid (by rw [← ti_free HN.out HFRR.out]; exact HP.out)
            have HM : Hid ((253402300800 - r).toNat ≤ G ∧ (0 ≤ r ∧ r ≤ 253402300800)) := Lib.hid (by have := HG.out; omega)
            clear hgt
            go_wp2_with fail
            go_roundg G
            case measure => omega
            case rel => exact ⟨r, pre, HM.out.1, HM.out.2, Nat.le_trans HZ4.out (KeepsWalks.setCell w4 _ _).size, HR2.out, hJ _ _ _ HJ4.out (RK.Steps.setCell _ _ _ rfl), HS4.out.set hd1 hd2 hd3 r⟩
          · have d1 : decide (c < r) = false := decide_eq_false hgt
            have HRN : Hid (r = c) := Lib.hid (by omega)
            have HH := Lib.hid (ti_hit HN.out (by have := HFRR.out; rwa [HRN.out] at this))
            have hpre7 : (pre ++ [c]) <+: L := by rw [← HP.out, HH.out]; exact ⟨tmsP (isP p l) (c + 1) 253402300799, by simp⟩
            have HE7 : Hid ((pre ++ [c]) ++ tmsP (isP p l) (c + 1) 253402300799 = L) := Lib.hid (by rw [← HP.out, HH.out]; simp)
            have HM : Hid ((253402300800 - (c + 1)).toNat ≤ G ∧ (0 ≤ c + 1 ∧ c + 1 ≤ 253402300800)) := Lib.hid (by have := HG.out; omega)
            have hwr : IntKind.i64.wrap (c + 1) = c + 1 := IntWalk.i64_in _ (by omega)
            clear hgt
            go_upto_region 12 with fail
            refine (wpIn_wide (n := 5)).1 ?_
            obtain ⟨fn, tmps, assign, body, hy7, hR⟩ := yieldAt_wide (k := 4) (hY pre c w4 HJ4.out hpre7 HZ4.out)
            have HP7 := Lib.hid hpre7
            clear hpre7
            gi_wp2_with fail
            refine hR.mono ?_
            rintro e W5 (⟨rfl, hJ5, hk5⟩ | ⟨rfl, hJx5⟩)
            · have HS5 := Lib.hid (HS4.out.keep hk5.2 hk5.1.size)
              have HJ5 := Lib.hid hJ5
              have HZ5 : Hid (W.heap.size ≤ W5.heap.size) := Lib.hid (Nat.le_trans HZ4.out hk5.1.size)
              have cf5 : W5.cell? ⟨fb, 0, none⟩ = some (.int .i64 c) := HS5.out.f.cell 0
              have ff5 : W5.frozen? ⟨fb, 0, none⟩ = false := HS5.out.f.frozen 0
              clear hJ5 hk5 hR hy7 cf ff
              gi_wp2_with fail
              go_wp2_with fail
              go_roundg G
              case measure => omega
              case rel => exact ⟨c + 1, pre ++ [c], HM.out.1, HM.out.2, Nat.le_trans HZ5.out (KeepsWalks.setCell W5 _ _).size, HE7.out, hJ _ _ _ HJ5.out (RK.Steps.setCell _ _ _ rfl), HS5.out.set hd1 hd2 hd3 (c + 1)⟩
            · gi_wp2_with fail
              go_wp2_with fail
              refine bodyPost_ret (results_none rfl _ _ _) rfl ?_
              exact ⟨⟨_, rfl⟩, .inr ⟨_, HP7.out, hJx5⟩⟩
end Go.Proofs.YtihadbkjfocdoaaGreatDoor.BW
namespace Go.Proofs.YtihadbkjfocdoaaGreatDoor.BW
open Go.RowKit BM Go.Shelf MC RK
open BK hiding ret_bool ret_i64

attribute [local go_sem] Oper.semAt_some

theorem times_seq (n : Nat) (p : Pl) (l : List (Int × Int)) (w0 : World) (hA : PArg w0 p l) (f0 f1 f2 f3 : Nat) (hK : KFn p f1 f2 f3) (hs : spE l = 0) (pb kb fb : Nat) (hd1 : pb ≠ fb) (hd2 : kb ≠ fb) (hd3 : w0.heap.size ≤ fb) (f : Int) (hf : 0 ≤ f ∧ f ≤ 253402300800) (w : World) (hF : TmF w0 p (kV f0 f1 f2 f3) pb kb fb f w) :
    SeqL Fence.wide n Tryz.prog 53 #[.pointer (some ⟨fb, 0, none⟩), .pointer (some ⟨kb, 0, none⟩), .pointer (some ⟨pb, 0, none⟩)] (fun t : Int => #[Value.int .i64 t]) (fun k => k = fb) (KpT w0.heap.size pb kb fb (w.heap.size + 2)) (tmsP (isP p l) f 253402300799) 0 w :=
  fun lp J Jx W hsz hW hJ _ hY h0 => times_in n p l w0 hA f0 f1 f2 f3 hK hs pb kb fb hd1 hd2 hd3 f hf _ rfl lp J Jx W (hF.below hW) hJ
    (fun pre d W1 hj hp hz => yieldAt_mono (hY pre d W1 hj hp (by omega)) (fun e w' h => h.imp (fun h => ⟨h.1, h.2.1, by rw [hsz]; exact h.2.2.1, h.2.2.2⟩) (fun h => ⟨h.1, h.2.1⟩))) h0
theorem times_mk (P V : Array Value) (t : Int) (w : World) : Calls Tryz.prog 39 #[.agg P, .agg V, .int .i64 t] w fun e w' => e = .returned (.func (.func 53) #[] #[.pointer (some ⟨w.heap.size + 2, 0, none⟩), .pointer (some ⟨w.heap.size + 1, 0, none⟩), .pointer (some ⟨w.heap.size, 0, none⟩)]) ∧
    w' = ((w.alloc (.cells P 52)).alloc (.cells V 91)).alloc (.cells #[.int .i64 t] 2) := by
  go_enter Tryz.func39, Tryz.ntmps39
  go_wp2
  go_ret
  exact ⟨rfl, rfl⟩
theorem NxI.stepsO {w : World} {v : Int} {b : Bool} {B fb : Nat} {X Y : World} (h : NxI w v b X) (hs : RK.Steps (fun k => k = fb) B X Y) (hB : w.heap.size ≤ B) (hf : w.heap.size + 3 < fb) : NxI w v b Y :=
  ⟨steps_blk hs h.r0 (fun e => by have e : w.heap.size + 1 = fb := e; omega), steps_blk hs h.r1 (fun e => by have e : w.heap.size + 2 = fb := e; omega), steps_blk hs h.r2 (fun e => by have e : w.heap.size + 3 = fb := e; omega), below_stepsO h.below hs hB (Nat.le_refl _) (fun k hk => by have e : k = fb := hk; omega)⟩
/-- The next time of a plan, if there is one. -/
noncomputable def nxQ (p : Pl) (l : List (Int × Int)) (t : Int) : Option Int := if finE p l [t] = 0 then nxP (isP p l) t else none
set_option maxRecDepth 8000 in
set_option maxHeartbeats 4000000 in
theorem plnext_ok (p : Pl) (l : List (Int × Int)) (t : Int) (w : World) (h : PArg w p l) : Calls Tryz.prog 22 #[.agg (plV p), .int .i64 t] w fun e w' =>
    e = .returned (.tuple #[.int .i64 (optI (nxQ p l t)), .bool (nxQ p l t).isSome, .int .i64 (finE p l [t])]) ∧ Below w.heap.size w w' := by
  refine callsIn_wide (n := 3).1 ?_
  obtain ⟨W1, hW1⟩ : ∃ W1, W1 = ((((w.alloc (.cells (plV p) 52)).alloc (.cells #[.int .i64 0] 2)).alloc (.cells #[.bool false] 4)).alloc (.cells #[.int .i64 0] 32)).alloc (.cells #[.int .i64 t] 2) := ⟨_, rfl⟩
  have hbx : Blk W1 w.heap.size 52 (plV p) := by rw [hW1]; exact ((((Blk.new w _ _).alloc _).alloc _).alloc _).alloc _
  have hr0 : Blk W1 (w.heap.size + 1) 2 #[.int .i64 0] := by rw [hW1]; exact (((Blk.newAt (by simp)).alloc _).alloc _).alloc _
  have hr1 : Blk W1 (w.heap.size + 2) 4 #[.bool false] := by rw [hW1]; exact ((Blk.newAt (by simp)).alloc _).alloc _
  have hr2 : Blk W1 (w.heap.size + 3) 32 #[.int .i64 0] := by rw [hW1]; exact (Blk.newAt (by simp)).alloc _
  have hts : Blk W1 (w.heap.size + 4) 2 #[.int .i64 t] := by rw [hW1]; exact Blk.newAt (by simp)
  have hB1 : Below w.heap.size w W1 := by rw [hW1]; exact (((((Below.refl _ w).alloc (Nat.le_refl _) _).alloc (by simp) _).alloc (by simp; omega) _).alloc (by simp; omega) _).alloc (by simp; omega) _
  have CF := Lib.hid (find_ok p h.x l h.n h.n9 [t] (some ⟨w.heap.size + 4, 0, none⟩) 1 1 rfl (by decide) W1 (h.sp.below hB1) (h.at_.below hB1) (fun k hk => by
    have : k = 0 := by simpa using hk
    subst this; exact ⟨_, _, rfl, hts.cell 0⟩))
  have HP := Lib.hid h
  have HW1 := Lib.hid hW1
  have HVK := Lib.hid (fun hh : finE p l [t] = 0 => kfn_ok p h.x (finE_ok hh).1)
  have HVT := Lib.hid (fun hh : finE p l [t] = 0 => (finE_ok hh).2)
  have HV1 := Lib.hid (fun hh : finE p l [t] = 0 => finV_ok (ts := [t]) hh)
  have HV2 := Lib.hid (fun hh : finE p l [t] ≠ 0 => finV_bad (ts := [t]) hh)
  have HNQ : Hid (nxQ p l t = if finE p l [t] = 0 then nxP (isP p l) t else none) := Lib.hid rfl
  obtain ⟨R, hR⟩ : ∃ R, nxQ p l t = R := ⟨_, rfl⟩
  rw [hR] at HNQ ⊢
  rw [hW1] at CF
  generalize finV p l [t] = V at *
  clear hW1 h hts hR
  have LI : Hid (∀ w, (isAgg 2).run Tryz.prog w = .ok false w) := Lib.hid (fun w => by simp [isAgg, run_underlying Tryz.underlying2, go_sem])
  have LB : Hid (∀ w, (isAgg 4).run Tryz.prog w = .ok false w) := Lib.hid (fun w => by simp [isAgg, run_underlying Tryz.underlying4, go_sem])
  have LE : Hid (∀ w, (isAgg 32).run Tryz.prog w = .ok false w) := Lib.hid (fun w => by simp [isAgg, run_underlying Tryz.underlying32, go_sem])
  by_cases hE : finE p l [t] = 0
  · obtain ⟨f0, f1, f2, f3, hk, hkf⟩ := HVK.out hE
    obtain ⟨hs, ht⟩ := HVT.out hE
    obtain rfl : V = _ := (HV1.out hE).trans hk
    have ht := ht t (by simp)
    have HR : Hid (R = nxP (isP p l) t) := Lib.hid (by rw [HNQ.out, if_pos hE])
    rw [hE] at CF ⊢
    have hwt : IntKind.i64.wrap (t + 1) = t + 1 := IntWalk.i64_in _ (by omega)
    have HF := Lib.hid hkf
    have HSP := Lib.hid hs
    clear HVK HV1 HV2 HVT hk hE hs hkf HNQ
    refine callsIn_of_wp_marks Tryz.func22 rfl trivial ?_ rfl
    simp only [Tryz.ntmps22, List.size_toArray, List.length_cons, List.length_nil, Nat.reduceAdd, Nat.reduceSub, Array.replicate_succ, Array.replicate_zero, List.push_toArray, List.append_toArray, List.nil_append, List.cons_append]
    have e0 : plV p = #[.int .i64 p.k, .int .u64 p.x.s, .int .u64 p.x.mi, .int .u64 p.x.h, .int .u64 p.x.d, .int .u64 p.x.mo, .int .u64 p.x.w, .bool p.x.ad, .bool p.x.aw, .int .i64 p.z, .int .i64 p.e.s, .int .i64 p.e.p, .int .i64 p.e.c, .slice p.a p.n p.c] := rfl
    have TM := Lib.hid (fun w => times_mk (plV p) #[.func (.func f0) #[] #[], .func (.func f1) #[] #[], .func (.func f2) #[] #[], .func (.func f3) #[] #[]] (t + 1) w)
    rw [e0] at CF TM ⊢
    clear e0
    gi_wp2_with fail
    refine ⟨trivial, (callsIn_wide.2 CF.out).mono ?_⟩
    rintro e w2 ⟨rfl, hb⟩
    have hb : Below W1.heap.size W1 w2 := by rw [HW1.out]; exact hb
    have hx2 := hbx.below hb hbx.lt
    have HI2 := Lib.hid (NxI.mk (hr0.below hb hr0.lt) (hr1.below hb hr1.lt) (hr2.below hb hr2.lt) (hB1.trans (hb.mono hB1.size)))
    have p0 : w2.cell? ⟨w.heap.size, 0, none⟩ = some (.int .i64 p.k) := hx2.cell 0
    have p1 : w2.cell? ⟨w.heap.size, 1, none⟩ = some (.int .u64 p.x.s) := hx2.cell 1
    have p2 : w2.cell? ⟨w.heap.size, 2, none⟩ = some (.int .u64 p.x.mi) := hx2.cell 2
    have p3 : w2.cell? ⟨w.heap.size, 3, none⟩ = some (.int .u64 p.x.h) := hx2.cell 3
    have p4 : w2.cell? ⟨w.heap.size, 4, none⟩ = some (.int .u64 p.x.d) := hx2.cell 4
    have p5 : w2.cell? ⟨w.heap.size, 5, none⟩ = some (.int .u64 p.x.mo) := hx2.cell 5
    have p6 : w2.cell? ⟨w.heap.size, 6, none⟩ = some (.int .u64 p.x.w) := hx2.cell 6
    have p7 : w2.cell? ⟨w.heap.size, 7, none⟩ = some (.bool p.x.ad) := hx2.cell 7
    have p8 : w2.cell? ⟨w.heap.size, 8, none⟩ = some (.bool p.x.aw) := hx2.cell 8
    have p9 : w2.cell? ⟨w.heap.size, 9, none⟩ = some (.int .i64 p.z) := hx2.cell 9
    have p10 : w2.cell? ⟨w.heap.size, 10, none⟩ = some (.int .i64 p.e.s) := hx2.cell 10
    have p11 : w2.cell? ⟨w.heap.size, 11, none⟩ = some (.int .i64 p.e.p) := hx2.cell 11
    have p12 : w2.cell? ⟨w.heap.size, 12, none⟩ = some (.int .i64 p.e.c) := hx2.cell 12
    have p13 : w2.cell? ⟨w.heap.size, 13, none⟩ = some (.slice p.a p.n p.c) := hx2.cell 13
    have hws : w.heap.size + 3 < w2.heap.size := HI2.out.r2.lt
    have hlt : w.heap.size < w2.heap.size := by omega
    have n1 : ¬ w.heap.size = w2.heap.size := by omega
    have n2 : ¬ w2.heap.size = w.heap.size := by omega
    clear hb hbx hr0 hr1 hr2 hB1 hx2 CF HW1
    gi_wp2_with fail
    refine ⟨trivial, (callsIn_wide.2 (TM.out _)).mono ?_⟩
    rintro e w3 ⟨rfl, rfl⟩
    have hb0 : Below w2.heap.size w2 ((((w2.alloc (.cells #[.func (.func f0) #[] #[], .func (.func f1) #[] #[], .func (.func f2) #[] #[], .func (.func f3) #[] #[]] 91)).alloc (.cells (plV p) 52)).alloc (.cells #[.func (.func f0) #[] #[], .func (.func f1) #[] #[], .func (.func f2) #[] #[], .func (.func f3) #[] #[]] 91)).alloc (.cells #[.int .i64 (t + 1)] 2)) := ((((Below.refl _ w2).alloc (Nat.le_refl _) _).alloc (by simp) _).alloc (by simp; omega) _).alloc (by simp; omega) _
    have q0 : Blk ((((w2.alloc (.cells #[.func (.func f0) #[] #[], .func (.func f1) #[] #[], .func (.func f2) #[] #[], .func (.func f3) #[] #[]] 91)).alloc (.cells (plV p) 52)).alloc (.cells #[.func (.func f0) #[] #[], .func (.func f1) #[] #[], .func (.func f2) #[] #[], .func (.func f3) #[] #[]] 91)).alloc (.cells #[.int .i64 (t + 1)] 2)) (w2.heap.size + 1) 52 (plV p) := ((Blk.newAt (by simp)).alloc _).alloc _
    have q1 : Blk ((((w2.alloc (.cells #[.func (.func f0) #[] #[], .func (.func f1) #[] #[], .func (.func f2) #[] #[], .func (.func f3) #[] #[]] 91)).alloc (.cells (plV p) 52)).alloc (.cells #[.func (.func f0) #[] #[], .func (.func f1) #[] #[], .func (.func f2) #[] #[], .func (.func f3) #[] #[]] 91)).alloc (.cells #[.int .i64 (t + 1)] 2)) (w2.heap.size + 2) 91 (kV f0 f1 f2 f3) := (Blk.newAt (by simp)).alloc _
    have q2 : Blk ((((w2.alloc (.cells #[.func (.func f0) #[] #[], .func (.func f1) #[] #[], .func (.func f2) #[] #[], .func (.func f3) #[] #[]] 91)).alloc (.cells (plV p) 52)).alloc (.cells #[.func (.func f0) #[] #[], .func (.func f1) #[] #[], .func (.func f2) #[] #[], .func (.func f3) #[] #[]] 91)).alloc (.cells #[.int .i64 (t + 1)] 2)) (w2.heap.size + 3) 2 #[.int .i64 (t + 1)] := Blk.newAt (by simp)
    have hs4 : ((((w2.alloc (.cells #[.func (.func f0) #[] #[], .func (.func f1) #[] #[], .func (.func f2) #[] #[], .func (.func f3) #[] #[]] 91)).alloc (.cells (plV p) 52)).alloc (.cells #[.func (.func f0) #[] #[], .func (.func f1) #[] #[], .func (.func f2) #[] #[], .func (.func f3) #[] #[]] 91)).alloc (.cells #[.int .i64 (t + 1)] 2)).heap.size = w2.heap.size + 4 := by simp
    have HS4 := Lib.hid hs4
    clear hs4
    gi_wp2_with fail
    have e0 : #[Value.int .i64 p.k, Value.int .u64 p.x.s, Value.int .u64 p.x.mi, Value.int .u64 p.x.h, Value.int .u64 p.x.d, Value.int .u64 p.x.mo, Value.int .u64 p.x.w, Value.bool p.x.ad, Value.bool p.x.aw, Value.int .i64 p.z, Value.int .i64 p.e.s, Value.int .i64 p.e.p, Value.int .i64 p.e.c, Value.slice p.a p.n p.c] = plV p := rfl
    (try rw [e0])
    clear e0
    generalize ((((w2.alloc (.cells _ _)).alloc (.cells _ _)).alloc (.cells _ _)).alloc (.cells _ _)) = w3 at *
    have hs3 := hb0.size
    have HI3 : Hid (NxI w 0 false w3) := Lib.hid (HI2.out.steps (RK.Steps.of_below (own := fun _ => False) (B := w2.heap.size) hb0) (by omega))
    have hF3 : TmF w p (kV f0 f1 f2 f3) (w2.heap.size + 1) (w2.heap.size + 2) (w2.heap.size + 3) (t + 1) w3 := ⟨Old.of_below (HI2.out.below.trans (hb0.mono HI2.out.below.size)), by omega, q0, q1, q2⟩
    have SQ := times_seq (3 - 1) p l w HP.out f0 f1 f2 f3 HF.out HSP.out (w2.heap.size + 1) (w2.heap.size + 2) (w2.heap.size + 3) (by omega) (by omega) (by omega) (t + 1) (by omega) w3 hF3
    have EG := enters_of Tryz.func53 (by kernel_rfl) rfl
    clear p0 p1 p2 p3 p4 p5 p6 p7 p8 p9 p10 p11 p12 p13 q0 q1 q2 hF3
    refine' wpIn_rangeFunc_seqL rfl (by decide) (gf := 53) (lb := #[.pointer (some ⟨w2.heap.size + 3, 0, none⟩), .pointer (some ⟨w2.heap.size + 2, 0, none⟩), .pointer (some ⟨w2.heap.size + 1, 0, none⟩)]) ?hg trivial EG
      SQ (fun k h => by have e : k = w2.heap.size + 3 := h; have := HS4.out; omega) (fun h k => ⟨h.1.trans k.1, h.2.trans k.2⟩)
      (fun W o o' hl hc => ⟨keepsFrom_put _ (by omega), fun k hk => World.putObj_heap_other (by have := HS4.out; unfold KT at hk; omega)⟩)
      (fun _ => rfl) (fun pre W => pre = [] ∧ NxI w 0 false W) (fun c pre W => c = .ret ∧ ∃ v, pre = [v] ∧ NxI w v true W) (fun pre X Y h hs => ⟨h.1, h.2.stepsO hs (by omega) (by omega)⟩) (fun c pre X Y h hs => ⟨h.1, h.2.elim fun v h => ⟨v, h.1, h.2.stepsO hs (by omega) (by omega)⟩⟩)
      ⟨rfl, HI3.out⟩ _ ?assign ?body ?done ?stop
    case hg => rfl
    case assign =>
      intro l d W K hK
      gi_wp2
      exact hK
    case body =>
      clear EG SQ
      rintro l pre d W ⟨rfl, hi⟩ hpre hsz
      have d1 : W.cell? ⟨w.heap.size + 1, 0, none⟩ = some (.int .i64 0) := hi.r0.cell 0
      have d2 : W.cell? ⟨w.heap.size + 2, 0, none⟩ = some (.bool false) := hi.r1.cell 0
      have d3 : W.cell? ⟨w.heap.size + 3, 0, none⟩ = some (.int .i64 0) := hi.r2.cell 0
      have f1 : W.frozen? ⟨w.heap.size + 1, 0, none⟩ = false := hi.r0.frozen 0
      have f2 : W.frozen? ⟨w.heap.size + 2, 0, none⟩ = false := hi.r1.frozen 0
      have f3 : W.frozen? ⟨w.heap.size + 3, 0, none⟩ = false := hi.r2.frozen 0
      gi_wp2_with fail
      exact ⟨keepsFrom_set (keepsFrom_set (keepsFrom_set (KeepsFrom.refl _ _) (by omega) _) (by omega) _) (by omega) _, rfl, d, rfl, hi.set d true⟩
    case done =>
      clear EG SQ
      rintro D W hD ⟨h, hi⟩ hK
      have d1 : W.cell? ⟨w.heap.size + 1, 0, none⟩ = some (.int .i64 0) := hi.r0.cell 0
      have d2 : W.cell? ⟨w.heap.size + 2, 0, none⟩ = some (.bool false) := hi.r1.cell 0
      have d3 : W.cell? ⟨w.heap.size + 3, 0, none⟩ = some (.int .i64 0) := hi.r2.cell 0
      have f1 : W.frozen? ⟨w.heap.size + 1, 0, none⟩ = false := hi.r0.frozen 0
      have f2 : W.frozen? ⟨w.heap.size + 2, 0, none⟩ = false := hi.r1.frozen 0
      have f3 : W.frozen? ⟨w.heap.size + 3, 0, none⟩ = false := hi.r2.frozen 0
      have HV : Hid (R = none) := Lib.hid (by rw [HR.out]; unfold nxP; rw [h]; rfl)
      have HI := Lib.hid (hi.set 0 false)
      have HK := Lib.hid (heap_set (b := w.heap.size + 3) (i := 0) (heap_set (b := w.heap.size + 2) (i := 0) (heap_set (b := w.heap.size + 1) (i := 0) hK (by omega) (.int .i64 0)) (by omega) (.bool false)) (by omega) (.int .i64 0))
      clear h hi hK
      gi_wp2_with fail
      refine ⟨by simp, .inl ⟨_, _, rfl, run_takeDeferred HK.out, ?_⟩⟩
      refine ⟨_, results_cell3 rfl _ _ ⟨w.heap.size + 1, 0, none⟩ ⟨w.heap.size + 2, 0, none⟩ ⟨w.heap.size + 3, 0, none⟩ _ _ _ rfl rfl rfl (run_loadVar_one LI.out _ _ _ _ (blk_put HI.out.r0 (by omega))) (run_loadVar_one LB.out _ _ _ _ (blk_put HI.out.r1 (by omega))) (run_loadVar_one LE.out _ _ _ _ (blk_put HI.out.r2 (by omega))), ?_⟩
      exact ⟨by rw [HV.out]; rfl, below_put HI.out.below (by omega)⟩
    case stop =>
      clear EG SQ
      rintro D c pre W hD hp ⟨rfl, v, rfl, hi⟩ hK
      have HV : Hid (R = some v) := Lib.hid (by
        rw [HR.out]
        unfold nxP
        obtain ⟨suf, hsuf⟩ := hp
        rw [← hsuf]; rfl)
      have HI := Lib.hid hi
      have HK := Lib.hid hK
      clear hp hi hK
      gi_wp2_with fail
      refine ⟨by simp, .inl ⟨_, _, rfl, run_takeDeferred HK.out, ?_⟩⟩
      refine ⟨_, results_cell3 rfl _ _ ⟨w.heap.size + 1, 0, none⟩ ⟨w.heap.size + 2, 0, none⟩ ⟨w.heap.size + 3, 0, none⟩ _ _ _ rfl rfl rfl (run_loadVar_one LI.out _ _ _ _ (blk_put HI.out.r0 (by omega))) (run_loadVar_one LB.out _ _ _ _ (blk_put HI.out.r1 (by omega))) (run_loadVar_one LE.out _ _ _ _ (blk_put HI.out.r2 (by omega))), ?_⟩
      exact ⟨by rw [HV.out]; rfl, below_put HI.out.below (by omega)⟩
  · obtain rfl : V = _ := HV2.out hE
    have HR : Hid (R = none) := Lib.hid (by rw [HNQ.out, if_neg hE])
    have hne : (finE p l [t] == 0) = false := by rw [beq_eq_false_iff_ne]; exact hE
    have hne' : (finE p l [t] != 0) = true := by rw [bne, hne]; rfl
    generalize finE p l [t] = E at *
    clear HVK HV1 HV2 HVT hE HNQ HP
    refine callsIn_of_wp_marks Tryz.func22 rfl trivial ?_ rfl
    simp only [Tryz.ntmps22, List.size_toArray, List.length_cons, List.length_nil, Nat.reduceAdd, Nat.reduceSub, Array.replicate_succ, Array.replicate_zero, List.push_toArray, List.append_toArray, List.nil_append, List.cons_append]
    have e0 : plV p = #[.int .i64 p.k, .int .u64 p.x.s, .int .u64 p.x.mi, .int .u64 p.x.h, .int .u64 p.x.d, .int .u64 p.x.mo, .int .u64 p.x.w, .bool p.x.ad, .bool p.x.aw, .int .i64 p.z, .int .i64 p.e.s, .int .i64 p.e.p, .int .i64 p.e.c, .slice p.a p.n p.c] := rfl
    rw [e0] at CF ⊢
    clear e0
    gi_wp2_with fail
    refine ⟨trivial, (callsIn_wide.2 CF.out).mono ?_⟩
    rintro e w2 ⟨rfl, hb⟩
    have hb : Below W1.heap.size W1 w2 := by rw [HW1.out]; exact hb
    have hx2 := hbx.below hb hbx.lt
    have hI2 := NxI.mk (hr0.below hb hr0.lt) (hr1.below hb hr1.lt) (hr2.below hb hr2.lt) (hB1.trans (hb.mono hB1.size))
    have hws : w.heap.size + 3 < w2.heap.size := hI2.r2.lt
    have HR0 := Lib.hid ((((hI2.r0.set_ 0 (.int .i64 0)).far (p := ⟨w.heap.size + 2, 0, none⟩) (by simp) (.bool false)).far (p := ⟨w.heap.size + 3, 0, none⟩) (by simp) (.int .i64 E)).alloc (.cells #[.nilFunc, .nilFunc, .nilFunc, .nilFunc] 91))
    have HR1 := Lib.hid ((((hI2.r1.far (p := ⟨w.heap.size + 1, 0, none⟩) (by simp) (.int .i64 0)).set_ 0 (.bool false)).far (p := ⟨w.heap.size + 3, 0, none⟩) (by simp) (.int .i64 E)).alloc (.cells #[.nilFunc, .nilFunc, .nilFunc, .nilFunc] 91))
    have HR2 := Lib.hid ((((hI2.r2.far (p := ⟨w.heap.size + 1, 0, none⟩) (by simp) (.int .i64 0)).far (p := ⟨w.heap.size + 2, 0, none⟩) (by simp) (.bool false)).set_ 0 (.int .i64 E)).alloc (.cells #[.nilFunc, .nilFunc, .nilFunc, .nilFunc] 91))
    have HB := Lib.hid ((((hI2.below.setCell (p := ⟨w.heap.size + 1, 0, none⟩) (by simp) (.int .i64 0)).setCell (p := ⟨w.heap.size + 2, 0, none⟩) (by simp) (.bool false)).setCell (p := ⟨w.heap.size + 3, 0, none⟩) (by simp) (.int .i64 E)).alloc (by simp [World.setCell]; omega) (.cells #[.nilFunc, .nilFunc, .nilFunc, .nilFunc] 91))
    have d1 : w2.cell? ⟨w.heap.size + 1, 0, none⟩ = some (.int .i64 0) := hI2.r0.cell 0
    have d2 : w2.cell? ⟨w.heap.size + 2, 0, none⟩ = some (.bool false) := hI2.r1.cell 0
    have d3 : w2.cell? ⟨w.heap.size + 3, 0, none⟩ = some (.int .i64 0) := hI2.r2.cell 0
    have f1 : w2.frozen? ⟨w.heap.size + 1, 0, none⟩ = false := hI2.r0.frozen 0
    have f2 : w2.frozen? ⟨w.heap.size + 2, 0, none⟩ = false := hI2.r1.frozen 0
    have f3 : w2.frozen? ⟨w.heap.size + 3, 0, none⟩ = false := hI2.r2.frozen 0
    have hl1 : w.heap.size + 1 < w2.heap.size := by omega
    have hl2 : w.heap.size + 2 < w2.heap.size := by omega
    have m1 : ¬ w.heap.size + 1 = w2.heap.size := by omega
    have m2 : ¬ w.heap.size + 2 = w2.heap.size := by omega
    have m3 : ¬ w.heap.size + 3 = w2.heap.size := by omega
    clear hb hbx hr0 hr1 hr2 hB1 hx2 CF HW1 hI2
    gi_wp2_with fail
    refine ⟨_, results_cell3 rfl _ _ ⟨w.heap.size + 1, 0, none⟩ ⟨w.heap.size + 2, 0, none⟩ ⟨w.heap.size + 3, 0, none⟩ _ _ _ rfl rfl rfl (run_loadVar_one LI.out _ _ _ _ HR0.out) (run_loadVar_one LB.out _ _ _ _ HR1.out) (run_loadVar_one LE.out _ _ _ _ HR2.out), ?_⟩
    exact ⟨by rw [HR.out]; rfl, HB.out⟩
end Go.Proofs.YtihadbkjfocdoaaGreatDoor.BW
namespace Go.Proofs.YtihadbkjfocdoaaGreatDoor.BW
open Go.RowKit BM Go.Shelf MC RK
open BK hiding ret_bool ret_i64

attribute [local go_sem] Oper.semAt_some

end Go.Proofs.YtihadbkjfocdoaaGreatDoor.BW
namespace Go.Proofs.YtihadbkjfocdoaaGreatDoor.BW
open Go.RowKit BM Go.Shelf MC
open BK hiding ret_bool ret_i64

end Go.Proofs.YtihadbkjfocdoaaGreatDoor.BW
