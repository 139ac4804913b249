/- The closure of wakemanlaw35.AdmitStays that shows all of a gate. -/
import Derived.Test.YtpgckpafjiojfaaGreatDoorAHo
namespace Go.Proofs.YtpgckpafjiojfaaGreatDoor.AD
open Go Go.RowKit BW
open BK (Bx BoxAt Blk only_refl only_drew only_drewN only_setCell only_trans only_of_below only_alloc below_drewN)
theorem blk20s {w : World} {b : Nat} {T : TypeId} {cs : Array Value} (h : Blk w b T cs) (hs : cs.size = 20) (v0 v1 v2 v3 v4 v5 v6 v7 v8 v9 v10 v11 v12 v13 v14 v15 v16 v17 v18 v19 : Value) : Blk ((((((((((((((((((((w.setCell ⟨b, 0, none⟩ v0).setCell ⟨b, 1, none⟩ v1).setCell ⟨b, 2, none⟩ v2).setCell ⟨b, 3, none⟩ v3).setCell ⟨b, 4, none⟩ v4).setCell ⟨b, 5, none⟩ v5).setCell ⟨b, 6, none⟩ v6).setCell ⟨b, 7, none⟩ v7).setCell ⟨b, 8, none⟩ v8).setCell ⟨b, 9, none⟩ v9).setCell ⟨b, 10, none⟩ v10).setCell ⟨b, 11, none⟩ v11).setCell ⟨b, 12, none⟩ v12).setCell ⟨b, 13, none⟩ v13).setCell ⟨b, 14, none⟩ v14).setCell ⟨b, 15, none⟩ v15).setCell ⟨b, 16, none⟩ v16).setCell ⟨b, 17, none⟩ v17).setCell ⟨b, 18, none⟩ v18).setCell ⟨b, 19, none⟩ v19) b T #[v0, v1, v2, v3, v4, v5, v6, v7, v8, v9, v10, v11, v12, v13, v14, v15, v16, v17, v18, v19] := by
  obtain ⟨c0, c1, c2, c3, c4, c5, c6, c7, c8, c9, c10, c11, c12, c13, c14, c15, c16, c17, c18, c19, rfl⟩ : ∃ c0 c1 c2 c3 c4 c5 c6 c7 c8 c9 c10 c11 c12 c13 c14 c15 c16 c17 c18 c19, cs = #[c0, c1, c2, c3, c4, c5, c6, c7, c8, c9, c10, c11, c12, c13, c14, c15, c16, c17, c18, c19] := by
    obtain ⟨l⟩ := cs
    match l, hs with
    | [c0, c1, c2, c3, c4, c5, c6, c7, c8, c9, c10, c11, c12, c13, c14, c15, c16, c17, c18, c19], _ => exact ⟨c0, c1, c2, c3, c4, c5, c6, c7, c8, c9, c10, c11, c12, c13, c14, c15, c16, c17, c18, c19, rfl⟩
  have h' := ((((((((((((((((((((h.set_ 0 v0).set_ 1 v1).set_ 2 v2).set_ 3 v3).set_ 4 v4).set_ 5 v5).set_ 6 v6).set_ 7 v7).set_ 8 v8).set_ 9 v9).set_ 10 v10).set_ 11 v11).set_ 12 v12).set_ 13 v13).set_ 14 v14).set_ 15 v15).set_ 16 v16).set_ 17 v17).set_ 18 v18).set_ 19 v19)
  simpa using h'
def shV (x : Gt) (now : Int) (i j : Nat) : Int := match j with
  | 0 => (x.Why i now).1
  | 1 => if (x.next i now).2.1 then (x.next i now).1 + 1 else (x.next i now).1
  | 2 => (x.state i now).1
  | 3 => (x.state i now).2.1
  | _ => (x.until i).1
def shI (x : Gt) (now : Int) (d i j : Nat) : Int := if i < d then shV x now i j else 0
def shc (x : Gt) (now : Int) (d i j : Nat) : Value := .int .i64 (shI x now d i j)
def outA (x : Gt) (now : Int) (d : Nat) : Array Value := #[shc x now d 0 0, shc x now d 0 1, shc x now d 0 2, shc x now d 0 3, shc x now d 0 4, shc x now d 1 0, shc x now d 1 1, shc x now d 1 2, shc x now d 1 3, shc x now d 1 4, shc x now d 2 0, shc x now d 2 1, shc x now d 2 2, shc x now d 2 3, shc x now d 2 4, shc x now d 3 0, shc x now d 3 1, shc x now d 3 2, shc x now d 3 3, shc x now d 3 4]
structure ShI (B : Nat) (w0 u : World) (cb gb nb N : Nat) (cs : Array Value) (L : Ly) (x : Gt) (now : Int) (W : World) : Prop where
  h : GHas B w0 W L x
  c : Blk W cb 31 cs
  g : Blk W gb 33 #[.pointer (some ⟨L.g, 0, none⟩)]
  v : Blk W nb 2 #[.int .i64 now]
  n : x.js.length = N
  lo : Below u.heap.size u W
section
variable {B cb gb nb N : Nat} {w0 u W W' : World} {cs : Array Value} {L : Ly} {x y : Gt} {now : Int}
theorem ShI.below (H : ShI B w0 u cb gb nb N cs L x now W) (hb : Below W.heap.size W W') : ShI B w0 u cb gb nb N cs L x now W' := ⟨H.h.below hb, H.c.below hb H.c.lt, H.g.below hb H.g.lt, H.v.below hb H.v.lt, H.n, H.lo.trans (hb.mono H.lo.size)⟩
theorem ShI.from (H : ShI B w0 u cb gb nb N cs L x now W) : ShI B w0 W cb gb nb N cs L x now W := ⟨H.h, H.c, H.g, H.v, H.n, Below.refl _ _⟩
end
theorem qh_why {w : World} {L : Ly} {x : Gt} (h : GAt w L x) (job now : Int) {n er : Int} (he : x.Why job now = (n, er)) : Calls Tryz.prog 19 #[.pointer (some ⟨L.g, 0, none⟩), .int .i64 job, .int .i64 now] w fun e w' => e = .returned (.tuple #[.int .i64 n, .int .i64 er]) ∧ Below w.heap.size w w' :=
  (gwhy_ok h job now).mono fun e w' ⟨h1, h2⟩ => by rw [he] at h1; exact ⟨h1, h2⟩
theorem qh_next {w : World} {L : Ly} {x : Gt} (h : GAt w L x) (job now : Int) {t : Int} {is : Bool} {er : Int} (he : x.next job now = (t, is, er)) : Calls Tryz.prog 20 #[.pointer (some ⟨L.g, 0, none⟩), .int .i64 job, .int .i64 now] w fun e w' => e = .returned (.tuple #[.int .i64 t, .bool is, .int .i64 er]) ∧ Below w.heap.size w w' :=
  (gnext_ok h job now).mono fun e w' ⟨h1, h2⟩ => by rw [he] at h1; exact ⟨h1, h2⟩
theorem qh_state {w : World} {L : Ly} {x : Gt} (h : GAt w L x) (job now : Int) {n s er : Int} (he : x.state job now = (n, s, er)) : Calls Tryz.prog 14 #[.pointer (some ⟨L.g, 0, none⟩), .int .i64 job, .int .i64 now] w fun e w' => e = .returned (.tuple #[.int .i64 n, .int .i64 s, .int .i64 er]) ∧ Below w.heap.size w w' :=
  (gstate_ok h job now).mono fun e w' ⟨h1, h2⟩ => by rw [he] at h1; exact ⟨h1, h2⟩
theorem qh_until {w : World} {L : Ly} {x : Gt} (h : GAt w L x) (job : Int) {t : Int} {op : Bool} (he : x.until job = (t, op)) : Calls Tryz.prog 21 #[.pointer (some ⟨L.g, 0, none⟩), .int .i64 job] w fun e w' => e = .returned (.tuple #[.int .i64 t, .bool op]) ∧ Below w.heap.size w w' :=
  (guntil_ok h job).mono fun e w' ⟨h1, h2⟩ => by subst h2; rw [he] at h1; exact ⟨h1, Below.refl _ _⟩
theorem shI_ne (x : Gt) (now : Int) (k i j : Nat) (h : i ≠ k) : shI x now (k + 1) i j = shI x now k i j := by
  unfold shI
  by_cases h1 : i < k
  · rw [if_pos h1, if_pos (by omega)]
  · rw [if_neg h1, if_neg (by omega)]
theorem set_row0 (c0 c1 c2 c3 c4 c5 c6 c7 c8 c9 c10 c11 c12 c13 c14 c15 c16 c17 c18 c19 v0 v1 v2 v3 v4 : Value) : (((((#[c0, c1, c2, c3, c4, c5, c6, c7, c8, c9, c10, c11, c12, c13, c14, c15, c16, c17, c18, c19]).setIfInBounds 0 v0).setIfInBounds 1 v1).setIfInBounds 2 v2).setIfInBounds 3 v3).setIfInBounds 4 v4 = #[v0, v1, v2, v3, v4, c5, c6, c7, c8, c9, c10, c11, c12, c13, c14, c15, c16, c17, c18, c19] := rfl
theorem set_row1 (c0 c1 c2 c3 c4 c5 c6 c7 c8 c9 c10 c11 c12 c13 c14 c15 c16 c17 c18 c19 v0 v1 v2 v3 v4 : Value) : (((((#[c0, c1, c2, c3, c4, c5, c6, c7, c8, c9, c10, c11, c12, c13, c14, c15, c16, c17, c18, c19]).setIfInBounds 5 v0).setIfInBounds 6 v1).setIfInBounds 7 v2).setIfInBounds 8 v3).setIfInBounds 9 v4 = #[c0, c1, c2, c3, c4, v0, v1, v2, v3, v4, c10, c11, c12, c13, c14, c15, c16, c17, c18, c19] := rfl
theorem set_row2 (c0 c1 c2 c3 c4 c5 c6 c7 c8 c9 c10 c11 c12 c13 c14 c15 c16 c17 c18 c19 v0 v1 v2 v3 v4 : Value) : (((((#[c0, c1, c2, c3, c4, c5, c6, c7, c8, c9, c10, c11, c12, c13, c14, c15, c16, c17, c18, c19]).setIfInBounds 10 v0).setIfInBounds 11 v1).setIfInBounds 12 v2).setIfInBounds 13 v3).setIfInBounds 14 v4 = #[c0, c1, c2, c3, c4, c5, c6, c7, c8, c9, v0, v1, v2, v3, v4, c15, c16, c17, c18, c19] := rfl
theorem set_row3 (c0 c1 c2 c3 c4 c5 c6 c7 c8 c9 c10 c11 c12 c13 c14 c15 c16 c17 c18 c19 v0 v1 v2 v3 v4 : Value) : (((((#[c0, c1, c2, c3, c4, c5, c6, c7, c8, c9, c10, c11, c12, c13, c14, c15, c16, c17, c18, c19]).setIfInBounds 15 v0).setIfInBounds 16 v1).setIfInBounds 17 v2).setIfInBounds 18 v3).setIfInBounds 19 v4 = #[c0, c1, c2, c3, c4, c5, c6, c7, c8, c9, c10, c11, c12, c13, c14, v0, v1, v2, v3, v4] := rfl
theorem ShI.far5 {B cb gb nb N b : Nat} {w0 u W : World} {cs ds : Array Value} {L : Ly} {x : Gt} {now : Int} (H : ShI B w0 u cb gb nb N cs L x now W) (hk : Blk W b 71 ds) (hb : B ≤ b) (hu : u.heap.size ≤ b) (hq : ∀ q, L.sup x.js.length q → q ≠ b) (i0 i1 i2 i3 i4 : Nat) (v0 v1 v2 v3 v4 : Value) :
    ShI B w0 u cb gb nb N cs L x now (((((W.setCell ⟨b, i0, none⟩ v0).setCell ⟨b, i1, none⟩ v1).setCell ⟨b, i2, none⟩ v2).setCell ⟨b, i3, none⟩ v3).setCell ⟨b, i4, none⟩ v4) := by
  have one : ∀ {W : World} {ds : Array Value}, ShI B w0 u cb gb nb N cs L x now W → Blk W b 71 ds → ∀ (i : Nat) (v : Value), ShI B w0 u cb gb nb N cs L x now (W.setCell ⟨b, i, none⟩ v) := fun {W ds} H hk i v =>
    ⟨⟨H.h.g.keep fun q hs => Below.heap_setCell W ⟨b, i, none⟩ v q (hq q hs), H.h.bel.setCell hb v, H.h.own, H.h.le⟩, H.c.far (blk_ne H.c hk (by decide)) v, H.g.far (blk_ne H.g hk (by decide)) v, H.v.far (blk_ne H.v hk (by decide)) v, H.n, H.lo.setCell hu v⟩
  exact one (one (one (one (one H hk i0 v0) (hk.set_ i0 v0) i1 v1) ((hk.set_ i0 v0).set_ i1 v1) i2 v2) (((hk.set_ i0 v0).set_ i1 v1).set_ i2 v2) i3 v3) ((((hk.set_ i0 v0).set_ i1 v1).set_ i2 v2).set_ i3 v3) i4 v4
set_option maxRecDepth 16000 in
set_option maxHeartbeats 4000000 in
theorem show_ok (G : Gl) (ja : Option Addr) (N jc : Nat) (hN4 : N ≤ 4) (B : Nat) (w0 u : World) (cb gb nb : Nat) (L : Ly) (x : Gt) (now : Int) (hnx : ∀ i : Nat, i < N → 0 ≤ (x.next i now).1 ∧ (x.next i now).1 ≤ 253402300799) (w : World) (H : ShI B w0 u cb gb nb N #[.int .i64 G.cap, .int .i64 G.q, .int .i64 G.ar, .int .i64 G.ag, .int .u64 G.sd, .int .i64 G.t, .int .i64 G.tau, .slice ja N jc] L x now w) :
    Calls Tryz.prog 18 #[.pointer (some ⟨cb, 0, none⟩), .pointer (some ⟨gb, 0, none⟩), .pointer (some ⟨nb, 0, none⟩)] w fun e w' => e = .returned (.agg (outA x now N)) ∧ ShI B w0 u cb gb nb N #[.int .i64 G.cap, .int .i64 G.q, .int .i64 G.ar, .int .i64 G.ag, .int .u64 G.sd, .int .i64 G.t, .int .i64 G.tau, .slice ja N jc] L x now w' := by
  obtain ⟨W0, hW0⟩ : ∃ W0, W0 = (w.alloc (.cells #[.int .i64 0, .int .i64 0, .int .i64 0, .int .i64 0, .int .i64 0, .int .i64 0, .int .i64 0, .int .i64 0, .int .i64 0, .int .i64 0, .int .i64 0, .int .i64 0, .int .i64 0, .int .i64 0, .int .i64 0, .int .i64 0, .int .i64 0, .int .i64 0, .int .i64 0, .int .i64 0] 71)).alloc (.cells #[.int .i64 0, .int .i64 0, .int .i64 0, .int .i64 0, .int .i64 0, .int .i64 0, .int .i64 0, .int .i64 0, .int .i64 0, .int .i64 0, .int .i64 0, .int .i64 0, .int .i64 0, .int .i64 0, .int .i64 0, .int .i64 0, .int .i64 0, .int .i64 0, .int .i64 0, .int .i64 0] 71) := ⟨_, rfl⟩
  have hb0 : Below w.heap.size w W0 := by rw [hW0]; exact two_boxes w _ _
  have D0I := Lib.hid (H.below hb0)
  have D0O : Hid (Blk W0 (w.heap.size + 1) 71 (outA x now 0)) := Lib.hid (by rw [hW0]; exact blk_newAt (by simp))
  have D0S : Hid (Blk W0 w.heap.size 71 #[.int .i64 0, .int .i64 0, .int .i64 0, .int .i64 0, .int .i64 0, .int .i64 0, .int .i64 0, .int .i64 0, .int .i64 0, .int .i64 0, .int .i64 0, .int .i64 0, .int .i64 0, .int .i64 0, .int .i64 0, .int .i64 0, .int .i64 0, .int .i64 0, .int .i64 0, .int .i64 0]) := Lib.hid (by rw [hW0]; exact (Blk.new _ _ _).alloc _)
  have hbo : B ≤ w.heap.size + 1 := by have h1 := H.h.bel.size; have h2 := H.h.le; omega
  have hbs : B ≤ w.heap.size := by have h1 := H.h.bel.size; have h2 := H.h.le; omega
  have hbu : u.heap.size ≤ w.heap.size + 1 := by have := H.lo.size; omega
  have hbv : u.heap.size ≤ w.heap.size := H.lo.size
  have HNX := Lib.hid hnx
  have HLT : Hid ((∀ q, L.sup x.js.length q → q < w.heap.size) ∧ cb < w.heap.size ∧ gb < w.heap.size ∧ nb < w.heap.size) := Lib.hid ⟨fun q hq => H.h.g.lt hq, H.c.lt, H.g.lt, H.v.lt⟩
  have HSEP : Hid (∀ q, L.sup x.js.length q → q ≠ w.heap.size + 1) := Lib.hid (fun q hq => by have := H.h.g.lt hq; omega)
  clear H hb0 hnx
  go_enter Tryz.func18, Tryz.ntmps18
  go_upto_region 2 with fail
  rw [← hW0]
  obtain ⟨ob, hob⟩ : ∃ ob, ob = w.heap.size + 1 := ⟨_, rfl⟩
  obtain ⟨sb, hsb⟩ : ∃ sb, sb = w.heap.size := ⟨_, rfl⟩
  have hso : sb ≠ ob := by omega
  rw [← hob] at D0O hbo hbu HSEP ⊢
  rw [← hsb] at D0S hbs hbv HLT ⊢
  clear hW0 hob hsb
  have k7 : W0.cell? ⟨cb, 7, none⟩ = some (.slice ja N jc) := D0I.out.c.cell 7
  go_wp2_with fail
  go_loopw [19] (fun s19 wr => ∃ k : Nat, k ≤ N ∧ s19 = .int .i64 k ∧ ShI B w0 u cb gb nb N #[.int .i64 G.cap, .int .i64 G.q, .int .i64 G.ar, .int .i64 G.ag, .int .u64 G.sd, .int .i64 G.t, .int .i64 G.tau, .slice ja N jc] L x now wr ∧ Blk wr ob 71 (outA x now k) ∧ Blk wr sb 71 #[.int .i64 0, .int .i64 0, .int .i64 0, .int .i64 0, .int .i64 0, .int .i64 0, .int .i64 0, .int .i64 0, .int .i64 0, .int .i64 0, .int .i64 0, .int .i64 0, .int .i64 0, .int .i64 0, .int .i64 0, .int .i64 0, .int .i64 0, .int .i64 0, .int .i64 0, .int .i64 0]) (fun s19 _ => N - intA s19)
  case atStart => exact ⟨0, Nat.zero_le _, rfl, D0I.out, D0O.out, D0S.out⟩
  case round =>
    obtain ⟨k, hk, h19, hI, hO, hS⟩ := hrel
    clear k7 D0I D0O D0S
    have D0I := Lib.hid hI
    have D0O := Lib.hid hO
    have D0S := Lib.hid hS
    clear hI hO hS
    have g0 : wr.cell? ⟨gb, 0, none⟩ = some (.pointer (some ⟨L.g, 0, none⟩)) := D0I.out.g.cell 0
    have n0 : wr.cell? ⟨nb, 0, none⟩ = some (.int .i64 now) := D0I.out.v.cell 0
    rcases Nat.lt_or_ge k N with hlt | hge
    · obtain rfl | rfl | rfl | rfl : k = 0 ∨ k = 1 ∨ k = 2 ∨ k = 3 := by omega
      · replace h19 := h19.trans (show Value.int .i64 ((0 : Nat) : Int) = .int .i64 0 from rfl)
        subst h19
        have hkN : 0 < N := hlt
        clear hlt
        obtain ⟨n1, e1, h1⟩ : ∃ n1 e1, x.Why (0 : Int) now = (n1, e1) := ⟨_, _, rfl⟩
        obtain ⟨t2, is, e2, h2⟩ : ∃ t2 is e2, x.next (0 : Int) now = (t2, is, e2) := ⟨_, _, _, rfl⟩
        obtain ⟨r3, s3, e3, h3⟩ : ∃ r3 s3 e3, x.state (0 : Int) now = (r3, s3, e3) := ⟨_, _, _, rfl⟩
        obtain ⟨u4, o4, h4⟩ : ∃ u4 o4, x.until (0 : Int) = (u4, o4) := ⟨_, _, rfl⟩
        have hb2 : 0 ≤ t2 ∧ t2 ≤ 253402300799 := by
          have := HNX.out 0 (by omega)
          rw [show ((0 : Nat) : Int) = 0 from rfl, h2] at this
          exact this
        have H1 := Lib.hid h1
        have H2 := Lib.hid h2
        have H3 := Lib.hid h3
        have H4 := Lib.hid h4
        clear h1 h2 h3 h4
        go_wp2_with fail
        refine (qh_why D0I.out.h.g 0 now H1.out).mono ?_
        rintro e_ X1 ⟨rfl, hb⟩
        have D1I := Lib.hid (D0I.out.below hb)
        have D1O := Lib.hid (D0O.out.below hb D0O.out.lt)
        have D1S := Lib.hid (D0S.out.below hb D0S.out.lt)
        clear hb D0I D0O D0S g0 n0
        have g1 : X1.cell? ⟨gb, 0, none⟩ = some (.pointer (some ⟨L.g, 0, none⟩)) := D1I.out.g.cell 0
        have n1_ : X1.cell? ⟨nb, 0, none⟩ = some (.int .i64 now) := D1I.out.v.cell 0
        go_wp2_with fail
        refine (qh_next D1I.out.h.g 0 now H2.out).mono ?_
        rintro e_ X2 ⟨rfl, hb⟩
        have D2I := Lib.hid (D1I.out.below hb)
        have D2O := Lib.hid (D1O.out.below hb D1O.out.lt)
        have D2S := Lib.hid (D1S.out.below hb D1S.out.lt)
        clear hb D1I D1O D1S g1 n1_
        have g2 : X2.cell? ⟨gb, 0, none⟩ = some (.pointer (some ⟨L.g, 0, none⟩)) := D2I.out.g.cell 0
        have n2 : X2.cell? ⟨nb, 0, none⟩ = some (.int .i64 now) := D2I.out.v.cell 0
        go_wp2_with fail
        refine (qh_state D2I.out.h.g 0 now H3.out).mono ?_
        rintro e_ X3 ⟨rfl, hb⟩
        have D3I := Lib.hid (D2I.out.below hb)
        have D3O := Lib.hid (D2O.out.below hb D2O.out.lt)
        have D3S := Lib.hid (D2S.out.below hb D2S.out.lt)
        clear hb D2I D2O D2S g2 n2
        have g3 : X3.cell? ⟨gb, 0, none⟩ = some (.pointer (some ⟨L.g, 0, none⟩)) := D3I.out.g.cell 0
        have n3 : X3.cell? ⟨nb, 0, none⟩ = some (.int .i64 now) := D3I.out.v.cell 0
        go_wp2_with fail
        refine (qh_until D3I.out.h.g 0 H4.out).mono ?_
        rintro e_ X4 ⟨rfl, hb⟩
        have D4I := Lib.hid (D3I.out.below hb)
        have D4O := Lib.hid (D3O.out.below hb D3O.out.lt)
        have D4S := Lib.hid (D3S.out.below hb D3S.out.lt)
        clear hb D3I D3O D3S g3 n3
        have g4 : X4.cell? ⟨gb, 0, none⟩ = some (.pointer (some ⟨L.g, 0, none⟩)) := D4I.out.g.cell 0
        have n4 : X4.cell? ⟨nb, 0, none⟩ = some (.int .i64 now) := D4I.out.v.cell 0
        cases is
        · have f0 : X4.cell? ⟨ob, 0, none⟩ = some (shc x now 0 0 0) := D4O.out.cell 0
          have y0 : X4.frozen? ⟨ob, 0, none⟩ = false := D4O.out.frozen 0
          have f1 : X4.cell? ⟨ob, 1, none⟩ = some (shc x now 0 0 1) := D4O.out.cell 1
          have y1 : X4.frozen? ⟨ob, 1, none⟩ = false := D4O.out.frozen 1
          have f2 : X4.cell? ⟨ob, 2, none⟩ = some (shc x now 0 0 2) := D4O.out.cell 2
          have y2 : X4.frozen? ⟨ob, 2, none⟩ = false := D4O.out.frozen 2
          have f3 : X4.cell? ⟨ob, 3, none⟩ = some (shc x now 0 0 3) := D4O.out.cell 3
          have y3 : X4.frozen? ⟨ob, 3, none⟩ = false := D4O.out.frozen 3
          have f4 : X4.cell? ⟨ob, 4, none⟩ = some (shc x now 0 0 4) := D4O.out.cell 4
          have y4 : X4.frozen? ⟨ob, 4, none⟩ = false := D4O.out.frozen 4
          have hko := D4O.out.lt
          go_wp2_with fail
          have v0 : shI x now 1 0 0 = n1 := by show (x.Why (0 : Int) now).1 = n1; rw [H1.out]
          have v1 : shI x now 1 0 1 = t2 := by show (if (x.next (0 : Int) now).2.1 then (x.next (0 : Int) now).1 + 1 else (x.next (0 : Int) now).1) = _; rw [H2.out]; rfl
          have v2 : shI x now 1 0 2 = r3 := by show (x.state (0 : Int) now).1 = r3; rw [H3.out]
          have v3 : shI x now 1 0 3 = s3 := by show (x.state (0 : Int) now).2.1 = s3; rw [H3.out]
          have v4 : shI x now 1 0 4 = u4 := by show (x.until (0 : Int)).1 = u4; rw [H4.out]
          have hO : Blk (((((X4.setCell ⟨ob, 0, none⟩ (.int .i64 (n1))).setCell ⟨ob, 1, none⟩ (.int .i64 (t2))).setCell ⟨ob, 2, none⟩ (.int .i64 (r3))).setCell ⟨ob, 3, none⟩ (.int .i64 (s3))).setCell ⟨ob, 4, none⟩ (.int .i64 (u4))) ob 71 (outA x now 1) := by
            have hh := ((((((((((D4O.out).set_ 0 (.int .i64 (n1)))).set_ 1 (.int .i64 (t2)))).set_ 2 (.int .i64 (r3)))).set_ 3 (.int .i64 (s3)))).set_ 4 (.int .i64 (u4)))
            have e : outA x now 1 = (((((outA x now 0).setIfInBounds 0 (.int .i64 (n1))).setIfInBounds 1 (.int .i64 (t2))).setIfInBounds 2 (.int .i64 (r3))).setIfInBounds 3 (.int .i64 (s3))).setIfInBounds 4 (.int .i64 (u4)) := by
              unfold outA shc
              rw [set_row0, v0, v1, v2, v3, v4]
              rw [(show shI x now 1 1 0 = shI x now 0 1 0 from shI_ne x now 0 1 0 (by decide)), (show shI x now 1 1 1 = shI x now 0 1 1 from shI_ne x now 0 1 1 (by decide)), (show shI x now 1 1 2 = shI x now 0 1 2 from shI_ne x now 0 1 2 (by decide)), (show shI x now 1 1 3 = shI x now 0 1 3 from shI_ne x now 0 1 3 (by decide)), (show shI x now 1 1 4 = shI x now 0 1 4 from shI_ne x now 0 1 4 (by decide)), (show shI x now 1 2 0 = shI x now 0 2 0 from shI_ne x now 0 2 0 (by decide)), (show shI x now 1 2 1 = shI x now 0 2 1 from shI_ne x now 0 2 1 (by decide)), (show shI x now 1 2 2 = shI x now 0 2 2 from shI_ne x now 0 2 2 (by decide)), (show shI x now 1 2 3 = shI x now 0 2 3 from shI_ne x now 0 2 3 (by decide)), (show shI x now 1 2 4 = shI x now 0 2 4 from shI_ne x now 0 2 4 (by decide)), (show shI x now 1 3 0 = shI x now 0 3 0 from shI_ne x now 0 3 0 (by decide)), (show shI x now 1 3 1 = shI x now 0 3 1 from shI_ne x now 0 3 1 (by decide)), (show shI x now 1 3 2 = shI x now 0 3 2 from shI_ne x now 0 3 2 (by decide)), (show shI x now 1 3 3 = shI x now 0 3 3 from shI_ne x now 0 3 3 (by decide)), (show shI x now 1 3 4 = shI x now 0 3 4 from shI_ne x now 0 3 4 (by decide))]
            rw [e]
            exact hh
          refine ⟨⟨1, by omega, rfl, D4I.out.far5 D4O.out hbo hbu HSEP.out _ _ _ _ _ _ _ _ _ _, hO, (Blk.far (Blk.far (Blk.far (Blk.far (Blk.far D4S.out (show sb ≠ ob by omega) _) (show sb ≠ ob by omega) _) (show sb ≠ ob by omega) _) (show sb ≠ ob by omega) _) (show sb ≠ ob by omega) _)⟩, ?_⟩
          simp [intA]; omega
        · have f0 : X4.cell? ⟨ob, 0, none⟩ = some (shc x now 0 0 0) := D4O.out.cell 0
          have y0 : X4.frozen? ⟨ob, 0, none⟩ = false := D4O.out.frozen 0
          have f1 : X4.cell? ⟨ob, 1, none⟩ = some (shc x now 0 0 1) := D4O.out.cell 1
          have y1 : X4.frozen? ⟨ob, 1, none⟩ = false := D4O.out.frozen 1
          have f2 : X4.cell? ⟨ob, 2, none⟩ = some (shc x now 0 0 2) := D4O.out.cell 2
          have y2 : X4.frozen? ⟨ob, 2, none⟩ = false := D4O.out.frozen 2
          have f3 : X4.cell? ⟨ob, 3, none⟩ = some (shc x now 0 0 3) := D4O.out.cell 3
          have y3 : X4.frozen? ⟨ob, 3, none⟩ = false := D4O.out.frozen 3
          have f4 : X4.cell? ⟨ob, 4, none⟩ = some (shc x now 0 0 4) := D4O.out.cell 4
          have y4 : X4.frozen? ⟨ob, 4, none⟩ = false := D4O.out.frozen 4
          have hko := D4O.out.lt
          go_wp2_with fail
          have v0 : shI x now 1 0 0 = n1 := by show (x.Why (0 : Int) now).1 = n1; rw [H1.out]
          have v1 : shI x now 1 0 1 = t2 + 1 := by show (if (x.next (0 : Int) now).2.1 then (x.next (0 : Int) now).1 + 1 else (x.next (0 : Int) now).1) = _; rw [H2.out]; rfl
          have v2 : shI x now 1 0 2 = r3 := by show (x.state (0 : Int) now).1 = r3; rw [H3.out]
          have v3 : shI x now 1 0 3 = s3 := by show (x.state (0 : Int) now).2.1 = s3; rw [H3.out]
          have v4 : shI x now 1 0 4 = u4 := by show (x.until (0 : Int)).1 = u4; rw [H4.out]
          have hO : Blk (((((X4.setCell ⟨ob, 0, none⟩ (.int .i64 (n1))).setCell ⟨ob, 1, none⟩ (.int .i64 (t2 + 1))).setCell ⟨ob, 2, none⟩ (.int .i64 (r3))).setCell ⟨ob, 3, none⟩ (.int .i64 (s3))).setCell ⟨ob, 4, none⟩ (.int .i64 (u4))) ob 71 (outA x now 1) := by
            have hh := ((((((((((D4O.out).set_ 0 (.int .i64 (n1)))).set_ 1 (.int .i64 (t2 + 1)))).set_ 2 (.int .i64 (r3)))).set_ 3 (.int .i64 (s3)))).set_ 4 (.int .i64 (u4)))
            have e : outA x now 1 = (((((outA x now 0).setIfInBounds 0 (.int .i64 (n1))).setIfInBounds 1 (.int .i64 (t2 + 1))).setIfInBounds 2 (.int .i64 (r3))).setIfInBounds 3 (.int .i64 (s3))).setIfInBounds 4 (.int .i64 (u4)) := by
              unfold outA shc
              rw [set_row0, v0, v1, v2, v3, v4]
              rw [(show shI x now 1 1 0 = shI x now 0 1 0 from shI_ne x now 0 1 0 (by decide)), (show shI x now 1 1 1 = shI x now 0 1 1 from shI_ne x now 0 1 1 (by decide)), (show shI x now 1 1 2 = shI x now 0 1 2 from shI_ne x now 0 1 2 (by decide)), (show shI x now 1 1 3 = shI x now 0 1 3 from shI_ne x now 0 1 3 (by decide)), (show shI x now 1 1 4 = shI x now 0 1 4 from shI_ne x now 0 1 4 (by decide)), (show shI x now 1 2 0 = shI x now 0 2 0 from shI_ne x now 0 2 0 (by decide)), (show shI x now 1 2 1 = shI x now 0 2 1 from shI_ne x now 0 2 1 (by decide)), (show shI x now 1 2 2 = shI x now 0 2 2 from shI_ne x now 0 2 2 (by decide)), (show shI x now 1 2 3 = shI x now 0 2 3 from shI_ne x now 0 2 3 (by decide)), (show shI x now 1 2 4 = shI x now 0 2 4 from shI_ne x now 0 2 4 (by decide)), (show shI x now 1 3 0 = shI x now 0 3 0 from shI_ne x now 0 3 0 (by decide)), (show shI x now 1 3 1 = shI x now 0 3 1 from shI_ne x now 0 3 1 (by decide)), (show shI x now 1 3 2 = shI x now 0 3 2 from shI_ne x now 0 3 2 (by decide)), (show shI x now 1 3 3 = shI x now 0 3 3 from shI_ne x now 0 3 3 (by decide)), (show shI x now 1 3 4 = shI x now 0 3 4 from shI_ne x now 0 3 4 (by decide))]
            rw [e]
            exact hh
          refine ⟨⟨1, by omega, rfl, D4I.out.far5 D4O.out hbo hbu HSEP.out _ _ _ _ _ _ _ _ _ _, hO, (Blk.far (Blk.far (Blk.far (Blk.far (Blk.far D4S.out (show sb ≠ ob by omega) _) (show sb ≠ ob by omega) _) (show sb ≠ ob by omega) _) (show sb ≠ ob by omega) _) (show sb ≠ ob by omega) _)⟩, ?_⟩
          simp [intA]; omega
      · replace h19 := h19.trans (show Value.int .i64 ((1 : Nat) : Int) = .int .i64 1 from rfl)
        subst h19
        have hkN : 1 < N := hlt
        clear hlt
        obtain ⟨n1, e1, h1⟩ : ∃ n1 e1, x.Why (1 : Int) now = (n1, e1) := ⟨_, _, rfl⟩
        obtain ⟨t2, is, e2, h2⟩ : ∃ t2 is e2, x.next (1 : Int) now = (t2, is, e2) := ⟨_, _, _, rfl⟩
        obtain ⟨r3, s3, e3, h3⟩ : ∃ r3 s3 e3, x.state (1 : Int) now = (r3, s3, e3) := ⟨_, _, _, rfl⟩
        obtain ⟨u4, o4, h4⟩ : ∃ u4 o4, x.until (1 : Int) = (u4, o4) := ⟨_, _, rfl⟩
        have hb2 : 0 ≤ t2 ∧ t2 ≤ 253402300799 := by
          have := HNX.out 1 (by omega)
          rw [show ((1 : Nat) : Int) = 1 from rfl, h2] at this
          exact this
        have H1 := Lib.hid h1
        have H2 := Lib.hid h2
        have H3 := Lib.hid h3
        have H4 := Lib.hid h4
        clear h1 h2 h3 h4
        go_wp2_with fail
        refine (qh_why D0I.out.h.g 1 now H1.out).mono ?_
        rintro e_ X1 ⟨rfl, hb⟩
        have D1I := Lib.hid (D0I.out.below hb)
        have D1O := Lib.hid (D0O.out.below hb D0O.out.lt)
        have D1S := Lib.hid (D0S.out.below hb D0S.out.lt)
        clear hb D0I D0O D0S g0 n0
        have g1 : X1.cell? ⟨gb, 0, none⟩ = some (.pointer (some ⟨L.g, 0, none⟩)) := D1I.out.g.cell 0
        have n1_ : X1.cell? ⟨nb, 0, none⟩ = some (.int .i64 now) := D1I.out.v.cell 0
        go_wp2_with fail
        refine (qh_next D1I.out.h.g 1 now H2.out).mono ?_
        rintro e_ X2 ⟨rfl, hb⟩
        have D2I := Lib.hid (D1I.out.below hb)
        have D2O := Lib.hid (D1O.out.below hb D1O.out.lt)
        have D2S := Lib.hid (D1S.out.below hb D1S.out.lt)
        clear hb D1I D1O D1S g1 n1_
        have g2 : X2.cell? ⟨gb, 0, none⟩ = some (.pointer (some ⟨L.g, 0, none⟩)) := D2I.out.g.cell 0
        have n2 : X2.cell? ⟨nb, 0, none⟩ = some (.int .i64 now) := D2I.out.v.cell 0
        go_wp2_with fail
        refine (qh_state D2I.out.h.g 1 now H3.out).mono ?_
        rintro e_ X3 ⟨rfl, hb⟩
        have D3I := Lib.hid (D2I.out.below hb)
        have D3O := Lib.hid (D2O.out.below hb D2O.out.lt)
        have D3S := Lib.hid (D2S.out.below hb D2S.out.lt)
        clear hb D2I D2O D2S g2 n2
        have g3 : X3.cell? ⟨gb, 0, none⟩ = some (.pointer (some ⟨L.g, 0, none⟩)) := D3I.out.g.cell 0
        have n3 : X3.cell? ⟨nb, 0, none⟩ = some (.int .i64 now) := D3I.out.v.cell 0
        go_wp2_with fail
        refine (qh_until D3I.out.h.g 1 H4.out).mono ?_
        rintro e_ X4 ⟨rfl, hb⟩
        have D4I := Lib.hid (D3I.out.below hb)
        have D4O := Lib.hid (D3O.out.below hb D3O.out.lt)
        have D4S := Lib.hid (D3S.out.below hb D3S.out.lt)
        clear hb D3I D3O D3S g3 n3
        have g4 : X4.cell? ⟨gb, 0, none⟩ = some (.pointer (some ⟨L.g, 0, none⟩)) := D4I.out.g.cell 0
        have n4 : X4.cell? ⟨nb, 0, none⟩ = some (.int .i64 now) := D4I.out.v.cell 0
        cases is
        · have f0 : X4.cell? ⟨ob, 5, none⟩ = some (shc x now 1 1 0) := D4O.out.cell 5
          have y0 : X4.frozen? ⟨ob, 5, none⟩ = false := D4O.out.frozen 5
          have f1 : X4.cell? ⟨ob, 6, none⟩ = some (shc x now 1 1 1) := D4O.out.cell 6
          have y1 : X4.frozen? ⟨ob, 6, none⟩ = false := D4O.out.frozen 6
          have f2 : X4.cell? ⟨ob, 7, none⟩ = some (shc x now 1 1 2) := D4O.out.cell 7
          have y2 : X4.frozen? ⟨ob, 7, none⟩ = false := D4O.out.frozen 7
          have f3 : X4.cell? ⟨ob, 8, none⟩ = some (shc x now 1 1 3) := D4O.out.cell 8
          have y3 : X4.frozen? ⟨ob, 8, none⟩ = false := D4O.out.frozen 8
          have f4 : X4.cell? ⟨ob, 9, none⟩ = some (shc x now 1 1 4) := D4O.out.cell 9
          have y4 : X4.frozen? ⟨ob, 9, none⟩ = false := D4O.out.frozen 9
          have hko := D4O.out.lt
          go_wp2_with fail
          have v0 : shI x now 2 1 0 = n1 := by show (x.Why (1 : Int) now).1 = n1; rw [H1.out]
          have v1 : shI x now 2 1 1 = t2 := by show (if (x.next (1 : Int) now).2.1 then (x.next (1 : Int) now).1 + 1 else (x.next (1 : Int) now).1) = _; rw [H2.out]; rfl
          have v2 : shI x now 2 1 2 = r3 := by show (x.state (1 : Int) now).1 = r3; rw [H3.out]
          have v3 : shI x now 2 1 3 = s3 := by show (x.state (1 : Int) now).2.1 = s3; rw [H3.out]
          have v4 : shI x now 2 1 4 = u4 := by show (x.until (1 : Int)).1 = u4; rw [H4.out]
          have hO : Blk (((((X4.setCell ⟨ob, 5, none⟩ (.int .i64 (n1))).setCell ⟨ob, 6, none⟩ (.int .i64 (t2))).setCell ⟨ob, 7, none⟩ (.int .i64 (r3))).setCell ⟨ob, 8, none⟩ (.int .i64 (s3))).setCell ⟨ob, 9, none⟩ (.int .i64 (u4))) ob 71 (outA x now 2) := by
            have hh := ((((((((((D4O.out).set_ 5 (.int .i64 (n1)))).set_ 6 (.int .i64 (t2)))).set_ 7 (.int .i64 (r3)))).set_ 8 (.int .i64 (s3)))).set_ 9 (.int .i64 (u4)))
            have e : outA x now 2 = (((((outA x now 1).setIfInBounds 5 (.int .i64 (n1))).setIfInBounds 6 (.int .i64 (t2))).setIfInBounds 7 (.int .i64 (r3))).setIfInBounds 8 (.int .i64 (s3))).setIfInBounds 9 (.int .i64 (u4)) := by
              unfold outA shc
              rw [set_row1, v0, v1, v2, v3, v4]
              rw [(show shI x now 2 0 0 = shI x now 1 0 0 from shI_ne x now 1 0 0 (by decide)), (show shI x now 2 0 1 = shI x now 1 0 1 from shI_ne x now 1 0 1 (by decide)), (show shI x now 2 0 2 = shI x now 1 0 2 from shI_ne x now 1 0 2 (by decide)), (show shI x now 2 0 3 = shI x now 1 0 3 from shI_ne x now 1 0 3 (by decide)), (show shI x now 2 0 4 = shI x now 1 0 4 from shI_ne x now 1 0 4 (by decide)), (show shI x now 2 2 0 = shI x now 1 2 0 from shI_ne x now 1 2 0 (by decide)), (show shI x now 2 2 1 = shI x now 1 2 1 from shI_ne x now 1 2 1 (by decide)), (show shI x now 2 2 2 = shI x now 1 2 2 from shI_ne x now 1 2 2 (by decide)), (show shI x now 2 2 3 = shI x now 1 2 3 from shI_ne x now 1 2 3 (by decide)), (show shI x now 2 2 4 = shI x now 1 2 4 from shI_ne x now 1 2 4 (by decide)), (show shI x now 2 3 0 = shI x now 1 3 0 from shI_ne x now 1 3 0 (by decide)), (show shI x now 2 3 1 = shI x now 1 3 1 from shI_ne x now 1 3 1 (by decide)), (show shI x now 2 3 2 = shI x now 1 3 2 from shI_ne x now 1 3 2 (by decide)), (show shI x now 2 3 3 = shI x now 1 3 3 from shI_ne x now 1 3 3 (by decide)), (show shI x now 2 3 4 = shI x now 1 3 4 from shI_ne x now 1 3 4 (by decide))]
            rw [e]
            exact hh
          refine ⟨⟨2, by omega, rfl, D4I.out.far5 D4O.out hbo hbu HSEP.out _ _ _ _ _ _ _ _ _ _, hO, (Blk.far (Blk.far (Blk.far (Blk.far (Blk.far D4S.out (show sb ≠ ob by omega) _) (show sb ≠ ob by omega) _) (show sb ≠ ob by omega) _) (show sb ≠ ob by omega) _) (show sb ≠ ob by omega) _)⟩, ?_⟩
          simp [intA]; omega
        · have f0 : X4.cell? ⟨ob, 5, none⟩ = some (shc x now 1 1 0) := D4O.out.cell 5
          have y0 : X4.frozen? ⟨ob, 5, none⟩ = false := D4O.out.frozen 5
          have f1 : X4.cell? ⟨ob, 6, none⟩ = some (shc x now 1 1 1) := D4O.out.cell 6
          have y1 : X4.frozen? ⟨ob, 6, none⟩ = false := D4O.out.frozen 6
          have f2 : X4.cell? ⟨ob, 7, none⟩ = some (shc x now 1 1 2) := D4O.out.cell 7
          have y2 : X4.frozen? ⟨ob, 7, none⟩ = false := D4O.out.frozen 7
          have f3 : X4.cell? ⟨ob, 8, none⟩ = some (shc x now 1 1 3) := D4O.out.cell 8
          have y3 : X4.frozen? ⟨ob, 8, none⟩ = false := D4O.out.frozen 8
          have f4 : X4.cell? ⟨ob, 9, none⟩ = some (shc x now 1 1 4) := D4O.out.cell 9
          have y4 : X4.frozen? ⟨ob, 9, none⟩ = false := D4O.out.frozen 9
          have hko := D4O.out.lt
          go_wp2_with fail
          have v0 : shI x now 2 1 0 = n1 := by show (x.Why (1 : Int) now).1 = n1; rw [H1.out]
          have v1 : shI x now 2 1 1 = t2 + 1 := by show (if (x.next (1 : Int) now).2.1 then (x.next (1 : Int) now).1 + 1 else (x.next (1 : Int) now).1) = _; rw [H2.out]; rfl
          have v2 : shI x now 2 1 2 = r3 := by show (x.state (1 : Int) now).1 = r3; rw [H3.out]
          have v3 : shI x now 2 1 3 = s3 := by show (x.state (1 : Int) now).2.1 = s3; rw [H3.out]
          have v4 : shI x now 2 1 4 = u4 := by show (x.until (1 : Int)).1 = u4; rw [H4.out]
          have hO : Blk (((((X4.setCell ⟨ob, 5, none⟩ (.int .i64 (n1))).setCell ⟨ob, 6, none⟩ (.int .i64 (t2 + 1))).setCell ⟨ob, 7, none⟩ (.int .i64 (r3))).setCell ⟨ob, 8, none⟩ (.int .i64 (s3))).setCell ⟨ob, 9, none⟩ (.int .i64 (u4))) ob 71 (outA x now 2) := by
            have hh := ((((((((((D4O.out).set_ 5 (.int .i64 (n1)))).set_ 6 (.int .i64 (t2 + 1)))).set_ 7 (.int .i64 (r3)))).set_ 8 (.int .i64 (s3)))).set_ 9 (.int .i64 (u4)))
            have e : outA x now 2 = (((((outA x now 1).setIfInBounds 5 (.int .i64 (n1))).setIfInBounds 6 (.int .i64 (t2 + 1))).setIfInBounds 7 (.int .i64 (r3))).setIfInBounds 8 (.int .i64 (s3))).setIfInBounds 9 (.int .i64 (u4)) := by
              unfold outA shc
              rw [set_row1, v0, v1, v2, v3, v4]
              rw [(show shI x now 2 0 0 = shI x now 1 0 0 from shI_ne x now 1 0 0 (by decide)), (show shI x now 2 0 1 = shI x now 1 0 1 from shI_ne x now 1 0 1 (by decide)), (show shI x now 2 0 2 = shI x now 1 0 2 from shI_ne x now 1 0 2 (by decide)), (show shI x now 2 0 3 = shI x now 1 0 3 from shI_ne x now 1 0 3 (by decide)), (show shI x now 2 0 4 = shI x now 1 0 4 from shI_ne x now 1 0 4 (by decide)), (show shI x now 2 2 0 = shI x now 1 2 0 from shI_ne x now 1 2 0 (by decide)), (show shI x now 2 2 1 = shI x now 1 2 1 from shI_ne x now 1 2 1 (by decide)), (show shI x now 2 2 2 = shI x now 1 2 2 from shI_ne x now 1 2 2 (by decide)), (show shI x now 2 2 3 = shI x now 1 2 3 from shI_ne x now 1 2 3 (by decide)), (show shI x now 2 2 4 = shI x now 1 2 4 from shI_ne x now 1 2 4 (by decide)), (show shI x now 2 3 0 = shI x now 1 3 0 from shI_ne x now 1 3 0 (by decide)), (show shI x now 2 3 1 = shI x now 1 3 1 from shI_ne x now 1 3 1 (by decide)), (show shI x now 2 3 2 = shI x now 1 3 2 from shI_ne x now 1 3 2 (by decide)), (show shI x now 2 3 3 = shI x now 1 3 3 from shI_ne x now 1 3 3 (by decide)), (show shI x now 2 3 4 = shI x now 1 3 4 from shI_ne x now 1 3 4 (by decide))]
            rw [e]
            exact hh
          refine ⟨⟨2, by omega, rfl, D4I.out.far5 D4O.out hbo hbu HSEP.out _ _ _ _ _ _ _ _ _ _, hO, (Blk.far (Blk.far (Blk.far (Blk.far (Blk.far D4S.out (show sb ≠ ob by omega) _) (show sb ≠ ob by omega) _) (show sb ≠ ob by omega) _) (show sb ≠ ob by omega) _) (show sb ≠ ob by omega) _)⟩, ?_⟩
          simp [intA]; omega
      · replace h19 := h19.trans (show Value.int .i64 ((2 : Nat) : Int) = .int .i64 2 from rfl)
        subst h19
        have hkN : 2 < N := hlt
        clear hlt
        obtain ⟨n1, e1, h1⟩ : ∃ n1 e1, x.Why (2 : Int) now = (n1, e1) := ⟨_, _, rfl⟩
        obtain ⟨t2, is, e2, h2⟩ : ∃ t2 is e2, x.next (2 : Int) now = (t2, is, e2) := ⟨_, _, _, rfl⟩
        obtain ⟨r3, s3, e3, h3⟩ : ∃ r3 s3 e3, x.state (2 : Int) now = (r3, s3, e3) := ⟨_, _, _, rfl⟩
        obtain ⟨u4, o4, h4⟩ : ∃ u4 o4, x.until (2 : Int) = (u4, o4) := ⟨_, _, rfl⟩
        have hb2 : 0 ≤ t2 ∧ t2 ≤ 253402300799 := by
          have := HNX.out 2 (by omega)
          rw [show ((2 : Nat) : Int) = 2 from rfl, h2] at this
          exact this
        have H1 := Lib.hid h1
        have H2 := Lib.hid h2
        have H3 := Lib.hid h3
        have H4 := Lib.hid h4
        clear h1 h2 h3 h4
        go_wp2_with fail
        refine (qh_why D0I.out.h.g 2 now H1.out).mono ?_
        rintro e_ X1 ⟨rfl, hb⟩
        have D1I := Lib.hid (D0I.out.below hb)
        have D1O := Lib.hid (D0O.out.below hb D0O.out.lt)
        have D1S := Lib.hid (D0S.out.below hb D0S.out.lt)
        clear hb D0I D0O D0S g0 n0
        have g1 : X1.cell? ⟨gb, 0, none⟩ = some (.pointer (some ⟨L.g, 0, none⟩)) := D1I.out.g.cell 0
        have n1_ : X1.cell? ⟨nb, 0, none⟩ = some (.int .i64 now) := D1I.out.v.cell 0
        go_wp2_with fail
        refine (qh_next D1I.out.h.g 2 now H2.out).mono ?_
        rintro e_ X2 ⟨rfl, hb⟩
        have D2I := Lib.hid (D1I.out.below hb)
        have D2O := Lib.hid (D1O.out.below hb D1O.out.lt)
        have D2S := Lib.hid (D1S.out.below hb D1S.out.lt)
        clear hb D1I D1O D1S g1 n1_
        have g2 : X2.cell? ⟨gb, 0, none⟩ = some (.pointer (some ⟨L.g, 0, none⟩)) := D2I.out.g.cell 0
        have n2 : X2.cell? ⟨nb, 0, none⟩ = some (.int .i64 now) := D2I.out.v.cell 0
        go_wp2_with fail
        refine (qh_state D2I.out.h.g 2 now H3.out).mono ?_
        rintro e_ X3 ⟨rfl, hb⟩
        have D3I := Lib.hid (D2I.out.below hb)
        have D3O := Lib.hid (D2O.out.below hb D2O.out.lt)
        have D3S := Lib.hid (D2S.out.below hb D2S.out.lt)
        clear hb D2I D2O D2S g2 n2
        have g3 : X3.cell? ⟨gb, 0, none⟩ = some (.pointer (some ⟨L.g, 0, none⟩)) := D3I.out.g.cell 0
        have n3 : X3.cell? ⟨nb, 0, none⟩ = some (.int .i64 now) := D3I.out.v.cell 0
        go_wp2_with fail
        refine (qh_until D3I.out.h.g 2 H4.out).mono ?_
        rintro e_ X4 ⟨rfl, hb⟩
        have D4I := Lib.hid (D3I.out.below hb)
        have D4O := Lib.hid (D3O.out.below hb D3O.out.lt)
        have D4S := Lib.hid (D3S.out.below hb D3S.out.lt)
        clear hb D3I D3O D3S g3 n3
        have g4 : X4.cell? ⟨gb, 0, none⟩ = some (.pointer (some ⟨L.g, 0, none⟩)) := D4I.out.g.cell 0
        have n4 : X4.cell? ⟨nb, 0, none⟩ = some (.int .i64 now) := D4I.out.v.cell 0
        cases is
        · have f0 : X4.cell? ⟨ob, 10, none⟩ = some (shc x now 2 2 0) := D4O.out.cell 10
          have y0 : X4.frozen? ⟨ob, 10, none⟩ = false := D4O.out.frozen 10
          have f1 : X4.cell? ⟨ob, 11, none⟩ = some (shc x now 2 2 1) := D4O.out.cell 11
          have y1 : X4.frozen? ⟨ob, 11, none⟩ = false := D4O.out.frozen 11
          have f2 : X4.cell? ⟨ob, 12, none⟩ = some (shc x now 2 2 2) := D4O.out.cell 12
          have y2 : X4.frozen? ⟨ob, 12, none⟩ = false := D4O.out.frozen 12
          have f3 : X4.cell? ⟨ob, 13, none⟩ = some (shc x now 2 2 3) := D4O.out.cell 13
          have y3 : X4.frozen? ⟨ob, 13, none⟩ = false := D4O.out.frozen 13
          have f4 : X4.cell? ⟨ob, 14, none⟩ = some (shc x now 2 2 4) := D4O.out.cell 14
          have y4 : X4.frozen? ⟨ob, 14, none⟩ = false := D4O.out.frozen 14
          have hko := D4O.out.lt
          go_wp2_with fail
          have v0 : shI x now 3 2 0 = n1 := by show (x.Why (2 : Int) now).1 = n1; rw [H1.out]
          have v1 : shI x now 3 2 1 = t2 := by show (if (x.next (2 : Int) now).2.1 then (x.next (2 : Int) now).1 + 1 else (x.next (2 : Int) now).1) = _; rw [H2.out]; rfl
          have v2 : shI x now 3 2 2 = r3 := by show (x.state (2 : Int) now).1 = r3; rw [H3.out]
          have v3 : shI x now 3 2 3 = s3 := by show (x.state (2 : Int) now).2.1 = s3; rw [H3.out]
          have v4 : shI x now 3 2 4 = u4 := by show (x.until (2 : Int)).1 = u4; rw [H4.out]
          have hO : Blk (((((X4.setCell ⟨ob, 10, none⟩ (.int .i64 (n1))).setCell ⟨ob, 11, none⟩ (.int .i64 (t2))).setCell ⟨ob, 12, none⟩ (.int .i64 (r3))).setCell ⟨ob, 13, none⟩ (.int .i64 (s3))).setCell ⟨ob, 14, none⟩ (.int .i64 (u4))) ob 71 (outA x now 3) := by
            have hh := ((((((((((D4O.out).set_ 10 (.int .i64 (n1)))).set_ 11 (.int .i64 (t2)))).set_ 12 (.int .i64 (r3)))).set_ 13 (.int .i64 (s3)))).set_ 14 (.int .i64 (u4)))
            have e : outA x now 3 = (((((outA x now 2).setIfInBounds 10 (.int .i64 (n1))).setIfInBounds 11 (.int .i64 (t2))).setIfInBounds 12 (.int .i64 (r3))).setIfInBounds 13 (.int .i64 (s3))).setIfInBounds 14 (.int .i64 (u4)) := by
              unfold outA shc
              rw [set_row2, v0, v1, v2, v3, v4]
              rw [(show shI x now 3 0 0 = shI x now 2 0 0 from shI_ne x now 2 0 0 (by decide)), (show shI x now 3 0 1 = shI x now 2 0 1 from shI_ne x now 2 0 1 (by decide)), (show shI x now 3 0 2 = shI x now 2 0 2 from shI_ne x now 2 0 2 (by decide)), (show shI x now 3 0 3 = shI x now 2 0 3 from shI_ne x now 2 0 3 (by decide)), (show shI x now 3 0 4 = shI x now 2 0 4 from shI_ne x now 2 0 4 (by decide)), (show shI x now 3 1 0 = shI x now 2 1 0 from shI_ne x now 2 1 0 (by decide)), (show shI x now 3 1 1 = shI x now 2 1 1 from shI_ne x now 2 1 1 (by decide)), (show shI x now 3 1 2 = shI x now 2 1 2 from shI_ne x now 2 1 2 (by decide)), (show shI x now 3 1 3 = shI x now 2 1 3 from shI_ne x now 2 1 3 (by decide)), (show shI x now 3 1 4 = shI x now 2 1 4 from shI_ne x now 2 1 4 (by decide)), (show shI x now 3 3 0 = shI x now 2 3 0 from shI_ne x now 2 3 0 (by decide)), (show shI x now 3 3 1 = shI x now 2 3 1 from shI_ne x now 2 3 1 (by decide)), (show shI x now 3 3 2 = shI x now 2 3 2 from shI_ne x now 2 3 2 (by decide)), (show shI x now 3 3 3 = shI x now 2 3 3 from shI_ne x now 2 3 3 (by decide)), (show shI x now 3 3 4 = shI x now 2 3 4 from shI_ne x now 2 3 4 (by decide))]
            rw [e]
            exact hh
          refine ⟨⟨3, by omega, rfl, D4I.out.far5 D4O.out hbo hbu HSEP.out _ _ _ _ _ _ _ _ _ _, hO, (Blk.far (Blk.far (Blk.far (Blk.far (Blk.far D4S.out (show sb ≠ ob by omega) _) (show sb ≠ ob by omega) _) (show sb ≠ ob by omega) _) (show sb ≠ ob by omega) _) (show sb ≠ ob by omega) _)⟩, ?_⟩
          simp [intA]; omega
        · have f0 : X4.cell? ⟨ob, 10, none⟩ = some (shc x now 2 2 0) := D4O.out.cell 10
          have y0 : X4.frozen? ⟨ob, 10, none⟩ = false := D4O.out.frozen 10
          have f1 : X4.cell? ⟨ob, 11, none⟩ = some (shc x now 2 2 1) := D4O.out.cell 11
          have y1 : X4.frozen? ⟨ob, 11, none⟩ = false := D4O.out.frozen 11
          have f2 : X4.cell? ⟨ob, 12, none⟩ = some (shc x now 2 2 2) := D4O.out.cell 12
          have y2 : X4.frozen? ⟨ob, 12, none⟩ = false := D4O.out.frozen 12
          have f3 : X4.cell? ⟨ob, 13, none⟩ = some (shc x now 2 2 3) := D4O.out.cell 13
          have y3 : X4.frozen? ⟨ob, 13, none⟩ = false := D4O.out.frozen 13
          have f4 : X4.cell? ⟨ob, 14, none⟩ = some (shc x now 2 2 4) := D4O.out.cell 14
          have y4 : X4.frozen? ⟨ob, 14, none⟩ = false := D4O.out.frozen 14
          have hko := D4O.out.lt
          go_wp2_with fail
          have v0 : shI x now 3 2 0 = n1 := by show (x.Why (2 : Int) now).1 = n1; rw [H1.out]
          have v1 : shI x now 3 2 1 = t2 + 1 := by show (if (x.next (2 : Int) now).2.1 then (x.next (2 : Int) now).1 + 1 else (x.next (2 : Int) now).1) = _; rw [H2.out]; rfl
          have v2 : shI x now 3 2 2 = r3 := by show (x.state (2 : Int) now).1 = r3; rw [H3.out]
          have v3 : shI x now 3 2 3 = s3 := by show (x.state (2 : Int) now).2.1 = s3; rw [H3.out]
          have v4 : shI x now 3 2 4 = u4 := by show (x.until (2 : Int)).1 = u4; rw [H4.out]
          have hO : Blk (((((X4.setCell ⟨ob, 10, none⟩ (.int .i64 (n1))).setCell ⟨ob, 11, none⟩ (.int .i64 (t2 + 1))).setCell ⟨ob, 12, none⟩ (.int .i64 (r3))).setCell ⟨ob, 13, none⟩ (.int .i64 (s3))).setCell ⟨ob, 14, none⟩ (.int .i64 (u4))) ob 71 (outA x now 3) := by
            have hh := ((((((((((D4O.out).set_ 10 (.int .i64 (n1)))).set_ 11 (.int .i64 (t2 + 1)))).set_ 12 (.int .i64 (r3)))).set_ 13 (.int .i64 (s3)))).set_ 14 (.int .i64 (u4)))
            have e : outA x now 3 = (((((outA x now 2).setIfInBounds 10 (.int .i64 (n1))).setIfInBounds 11 (.int .i64 (t2 + 1))).setIfInBounds 12 (.int .i64 (r3))).setIfInBounds 13 (.int .i64 (s3))).setIfInBounds 14 (.int .i64 (u4)) := by
              unfold outA shc
              rw [set_row2, v0, v1, v2, v3, v4]
              rw [(show shI x now 3 0 0 = shI x now 2 0 0 from shI_ne x now 2 0 0 (by decide)), (show shI x now 3 0 1 = shI x now 2 0 1 from shI_ne x now 2 0 1 (by decide)), (show shI x now 3 0 2 = shI x now 2 0 2 from shI_ne x now 2 0 2 (by decide)), (show shI x now 3 0 3 = shI x now 2 0 3 from shI_ne x now 2 0 3 (by decide)), (show shI x now 3 0 4 = shI x now 2 0 4 from shI_ne x now 2 0 4 (by decide)), (show shI x now 3 1 0 = shI x now 2 1 0 from shI_ne x now 2 1 0 (by decide)), (show shI x now 3 1 1 = shI x now 2 1 1 from shI_ne x now 2 1 1 (by decide)), (show shI x now 3 1 2 = shI x now 2 1 2 from shI_ne x now 2 1 2 (by decide)), (show shI x now 3 1 3 = shI x now 2 1 3 from shI_ne x now 2 1 3 (by decide)), (show shI x now 3 1 4 = shI x now 2 1 4 from shI_ne x now 2 1 4 (by decide)), (show shI x now 3 3 0 = shI x now 2 3 0 from shI_ne x now 2 3 0 (by decide)), (show shI x now 3 3 1 = shI x now 2 3 1 from shI_ne x now 2 3 1 (by decide)), (show shI x now 3 3 2 = shI x now 2 3 2 from shI_ne x now 2 3 2 (by decide)), (show shI x now 3 3 3 = shI x now 2 3 3 from shI_ne x now 2 3 3 (by decide)), (show shI x now 3 3 4 = shI x now 2 3 4 from shI_ne x now 2 3 4 (by decide))]
            rw [e]
            exact hh
          refine ⟨⟨3, by omega, rfl, D4I.out.far5 D4O.out hbo hbu HSEP.out _ _ _ _ _ _ _ _ _ _, hO, (Blk.far (Blk.far (Blk.far (Blk.far (Blk.far D4S.out (show sb ≠ ob by omega) _) (show sb ≠ ob by omega) _) (show sb ≠ ob by omega) _) (show sb ≠ ob by omega) _) (show sb ≠ ob by omega) _)⟩, ?_⟩
          simp [intA]; omega
      · replace h19 := h19.trans (show Value.int .i64 ((3 : Nat) : Int) = .int .i64 3 from rfl)
        subst h19
        have hkN : 3 < N := hlt
        clear hlt
        obtain ⟨n1, e1, h1⟩ : ∃ n1 e1, x.Why (3 : Int) now = (n1, e1) := ⟨_, _, rfl⟩
        obtain ⟨t2, is, e2, h2⟩ : ∃ t2 is e2, x.next (3 : Int) now = (t2, is, e2) := ⟨_, _, _, rfl⟩
        obtain ⟨r3, s3, e3, h3⟩ : ∃ r3 s3 e3, x.state (3 : Int) now = (r3, s3, e3) := ⟨_, _, _, rfl⟩
        obtain ⟨u4, o4, h4⟩ : ∃ u4 o4, x.until (3 : Int) = (u4, o4) := ⟨_, _, rfl⟩
        have hb2 : 0 ≤ t2 ∧ t2 ≤ 253402300799 := by
          have := HNX.out 3 (by omega)
          rw [show ((3 : Nat) : Int) = 3 from rfl, h2] at this
          exact this
        have H1 := Lib.hid h1
        have H2 := Lib.hid h2
        have H3 := Lib.hid h3
        have H4 := Lib.hid h4
        clear h1 h2 h3 h4
        go_wp2_with fail
        refine (qh_why D0I.out.h.g 3 now H1.out).mono ?_
        rintro e_ X1 ⟨rfl, hb⟩
        have D1I := Lib.hid (D0I.out.below hb)
        have D1O := Lib.hid (D0O.out.below hb D0O.out.lt)
        have D1S := Lib.hid (D0S.out.below hb D0S.out.lt)
        clear hb D0I D0O D0S g0 n0
        have g1 : X1.cell? ⟨gb, 0, none⟩ = some (.pointer (some ⟨L.g, 0, none⟩)) := D1I.out.g.cell 0
        have n1_ : X1.cell? ⟨nb, 0, none⟩ = some (.int .i64 now) := D1I.out.v.cell 0
        go_wp2_with fail
        refine (qh_next D1I.out.h.g 3 now H2.out).mono ?_
        rintro e_ X2 ⟨rfl, hb⟩
        have D2I := Lib.hid (D1I.out.below hb)
        have D2O := Lib.hid (D1O.out.below hb D1O.out.lt)
        have D2S := Lib.hid (D1S.out.below hb D1S.out.lt)
        clear hb D1I D1O D1S g1 n1_
        have g2 : X2.cell? ⟨gb, 0, none⟩ = some (.pointer (some ⟨L.g, 0, none⟩)) := D2I.out.g.cell 0
        have n2 : X2.cell? ⟨nb, 0, none⟩ = some (.int .i64 now) := D2I.out.v.cell 0
        go_wp2_with fail
        refine (qh_state D2I.out.h.g 3 now H3.out).mono ?_
        rintro e_ X3 ⟨rfl, hb⟩
        have D3I := Lib.hid (D2I.out.below hb)
        have D3O := Lib.hid (D2O.out.below hb D2O.out.lt)
        have D3S := Lib.hid (D2S.out.below hb D2S.out.lt)
        clear hb D2I D2O D2S g2 n2
        have g3 : X3.cell? ⟨gb, 0, none⟩ = some (.pointer (some ⟨L.g, 0, none⟩)) := D3I.out.g.cell 0
        have n3 : X3.cell? ⟨nb, 0, none⟩ = some (.int .i64 now) := D3I.out.v.cell 0
        go_wp2_with fail
        refine (qh_until D3I.out.h.g 3 H4.out).mono ?_
        rintro e_ X4 ⟨rfl, hb⟩
        have D4I := Lib.hid (D3I.out.below hb)
        have D4O := Lib.hid (D3O.out.below hb D3O.out.lt)
        have D4S := Lib.hid (D3S.out.below hb D3S.out.lt)
        clear hb D3I D3O D3S g3 n3
        have g4 : X4.cell? ⟨gb, 0, none⟩ = some (.pointer (some ⟨L.g, 0, none⟩)) := D4I.out.g.cell 0
        have n4 : X4.cell? ⟨nb, 0, none⟩ = some (.int .i64 now) := D4I.out.v.cell 0
        cases is
        · have f0 : X4.cell? ⟨ob, 15, none⟩ = some (shc x now 3 3 0) := D4O.out.cell 15
          have y0 : X4.frozen? ⟨ob, 15, none⟩ = false := D4O.out.frozen 15
          have f1 : X4.cell? ⟨ob, 16, none⟩ = some (shc x now 3 3 1) := D4O.out.cell 16
          have y1 : X4.frozen? ⟨ob, 16, none⟩ = false := D4O.out.frozen 16
          have f2 : X4.cell? ⟨ob, 17, none⟩ = some (shc x now 3 3 2) := D4O.out.cell 17
          have y2 : X4.frozen? ⟨ob, 17, none⟩ = false := D4O.out.frozen 17
          have f3 : X4.cell? ⟨ob, 18, none⟩ = some (shc x now 3 3 3) := D4O.out.cell 18
          have y3 : X4.frozen? ⟨ob, 18, none⟩ = false := D4O.out.frozen 18
          have f4 : X4.cell? ⟨ob, 19, none⟩ = some (shc x now 3 3 4) := D4O.out.cell 19
          have y4 : X4.frozen? ⟨ob, 19, none⟩ = false := D4O.out.frozen 19
          have hko := D4O.out.lt
          go_wp2_with fail
          have v0 : shI x now 4 3 0 = n1 := by show (x.Why (3 : Int) now).1 = n1; rw [H1.out]
          have v1 : shI x now 4 3 1 = t2 := by show (if (x.next (3 : Int) now).2.1 then (x.next (3 : Int) now).1 + 1 else (x.next (3 : Int) now).1) = _; rw [H2.out]; rfl
          have v2 : shI x now 4 3 2 = r3 := by show (x.state (3 : Int) now).1 = r3; rw [H3.out]
          have v3 : shI x now 4 3 3 = s3 := by show (x.state (3 : Int) now).2.1 = s3; rw [H3.out]
          have v4 : shI x now 4 3 4 = u4 := by show (x.until (3 : Int)).1 = u4; rw [H4.out]
          have hO : Blk (((((X4.setCell ⟨ob, 15, none⟩ (.int .i64 (n1))).setCell ⟨ob, 16, none⟩ (.int .i64 (t2))).setCell ⟨ob, 17, none⟩ (.int .i64 (r3))).setCell ⟨ob, 18, none⟩ (.int .i64 (s3))).setCell ⟨ob, 19, none⟩ (.int .i64 (u4))) ob 71 (outA x now 4) := by
            have hh := ((((((((((D4O.out).set_ 15 (.int .i64 (n1)))).set_ 16 (.int .i64 (t2)))).set_ 17 (.int .i64 (r3)))).set_ 18 (.int .i64 (s3)))).set_ 19 (.int .i64 (u4)))
            have e : outA x now 4 = (((((outA x now 3).setIfInBounds 15 (.int .i64 (n1))).setIfInBounds 16 (.int .i64 (t2))).setIfInBounds 17 (.int .i64 (r3))).setIfInBounds 18 (.int .i64 (s3))).setIfInBounds 19 (.int .i64 (u4)) := by
              unfold outA shc
              rw [set_row3, v0, v1, v2, v3, v4]
              rw [(show shI x now 4 0 0 = shI x now 3 0 0 from shI_ne x now 3 0 0 (by decide)), (show shI x now 4 0 1 = shI x now 3 0 1 from shI_ne x now 3 0 1 (by decide)), (show shI x now 4 0 2 = shI x now 3 0 2 from shI_ne x now 3 0 2 (by decide)), (show shI x now 4 0 3 = shI x now 3 0 3 from shI_ne x now 3 0 3 (by decide)), (show shI x now 4 0 4 = shI x now 3 0 4 from shI_ne x now 3 0 4 (by decide)), (show shI x now 4 1 0 = shI x now 3 1 0 from shI_ne x now 3 1 0 (by decide)), (show shI x now 4 1 1 = shI x now 3 1 1 from shI_ne x now 3 1 1 (by decide)), (show shI x now 4 1 2 = shI x now 3 1 2 from shI_ne x now 3 1 2 (by decide)), (show shI x now 4 1 3 = shI x now 3 1 3 from shI_ne x now 3 1 3 (by decide)), (show shI x now 4 1 4 = shI x now 3 1 4 from shI_ne x now 3 1 4 (by decide)), (show shI x now 4 2 0 = shI x now 3 2 0 from shI_ne x now 3 2 0 (by decide)), (show shI x now 4 2 1 = shI x now 3 2 1 from shI_ne x now 3 2 1 (by decide)), (show shI x now 4 2 2 = shI x now 3 2 2 from shI_ne x now 3 2 2 (by decide)), (show shI x now 4 2 3 = shI x now 3 2 3 from shI_ne x now 3 2 3 (by decide)), (show shI x now 4 2 4 = shI x now 3 2 4 from shI_ne x now 3 2 4 (by decide))]
            rw [e]
            exact hh
          refine ⟨⟨4, by omega, rfl, D4I.out.far5 D4O.out hbo hbu HSEP.out _ _ _ _ _ _ _ _ _ _, hO, (Blk.far (Blk.far (Blk.far (Blk.far (Blk.far D4S.out (show sb ≠ ob by omega) _) (show sb ≠ ob by omega) _) (show sb ≠ ob by omega) _) (show sb ≠ ob by omega) _) (show sb ≠ ob by omega) _)⟩, ?_⟩
          simp [intA]; omega
        · have f0 : X4.cell? ⟨ob, 15, none⟩ = some (shc x now 3 3 0) := D4O.out.cell 15
          have y0 : X4.frozen? ⟨ob, 15, none⟩ = false := D4O.out.frozen 15
          have f1 : X4.cell? ⟨ob, 16, none⟩ = some (shc x now 3 3 1) := D4O.out.cell 16
          have y1 : X4.frozen? ⟨ob, 16, none⟩ = false := D4O.out.frozen 16
          have f2 : X4.cell? ⟨ob, 17, none⟩ = some (shc x now 3 3 2) := D4O.out.cell 17
          have y2 : X4.frozen? ⟨ob, 17, none⟩ = false := D4O.out.frozen 17
          have f3 : X4.cell? ⟨ob, 18, none⟩ = some (shc x now 3 3 3) := D4O.out.cell 18
          have y3 : X4.frozen? ⟨ob, 18, none⟩ = false := D4O.out.frozen 18
          have f4 : X4.cell? ⟨ob, 19, none⟩ = some (shc x now 3 3 4) := D4O.out.cell 19
          have y4 : X4.frozen? ⟨ob, 19, none⟩ = false := D4O.out.frozen 19
          have hko := D4O.out.lt
          go_wp2_with fail
          have v0 : shI x now 4 3 0 = n1 := by show (x.Why (3 : Int) now).1 = n1; rw [H1.out]
          have v1 : shI x now 4 3 1 = t2 + 1 := by show (if (x.next (3 : Int) now).2.1 then (x.next (3 : Int) now).1 + 1 else (x.next (3 : Int) now).1) = _; rw [H2.out]; rfl
          have v2 : shI x now 4 3 2 = r3 := by show (x.state (3 : Int) now).1 = r3; rw [H3.out]
          have v3 : shI x now 4 3 3 = s3 := by show (x.state (3 : Int) now).2.1 = s3; rw [H3.out]
          have v4 : shI x now 4 3 4 = u4 := by show (x.until (3 : Int)).1 = u4; rw [H4.out]
          have hO : Blk (((((X4.setCell ⟨ob, 15, none⟩ (.int .i64 (n1))).setCell ⟨ob, 16, none⟩ (.int .i64 (t2 + 1))).setCell ⟨ob, 17, none⟩ (.int .i64 (r3))).setCell ⟨ob, 18, none⟩ (.int .i64 (s3))).setCell ⟨ob, 19, none⟩ (.int .i64 (u4))) ob 71 (outA x now 4) := by
            have hh := ((((((((((D4O.out).set_ 15 (.int .i64 (n1)))).set_ 16 (.int .i64 (t2 + 1)))).set_ 17 (.int .i64 (r3)))).set_ 18 (.int .i64 (s3)))).set_ 19 (.int .i64 (u4)))
            have e : outA x now 4 = (((((outA x now 3).setIfInBounds 15 (.int .i64 (n1))).setIfInBounds 16 (.int .i64 (t2 + 1))).setIfInBounds 17 (.int .i64 (r3))).setIfInBounds 18 (.int .i64 (s3))).setIfInBounds 19 (.int .i64 (u4)) := by
              unfold outA shc
              rw [set_row3, v0, v1, v2, v3, v4]
              rw [(show shI x now 4 0 0 = shI x now 3 0 0 from shI_ne x now 3 0 0 (by decide)), (show shI x now 4 0 1 = shI x now 3 0 1 from shI_ne x now 3 0 1 (by decide)), (show shI x now 4 0 2 = shI x now 3 0 2 from shI_ne x now 3 0 2 (by decide)), (show shI x now 4 0 3 = shI x now 3 0 3 from shI_ne x now 3 0 3 (by decide)), (show shI x now 4 0 4 = shI x now 3 0 4 from shI_ne x now 3 0 4 (by decide)), (show shI x now 4 1 0 = shI x now 3 1 0 from shI_ne x now 3 1 0 (by decide)), (show shI x now 4 1 1 = shI x now 3 1 1 from shI_ne x now 3 1 1 (by decide)), (show shI x now 4 1 2 = shI x now 3 1 2 from shI_ne x now 3 1 2 (by decide)), (show shI x now 4 1 3 = shI x now 3 1 3 from shI_ne x now 3 1 3 (by decide)), (show shI x now 4 1 4 = shI x now 3 1 4 from shI_ne x now 3 1 4 (by decide)), (show shI x now 4 2 0 = shI x now 3 2 0 from shI_ne x now 3 2 0 (by decide)), (show shI x now 4 2 1 = shI x now 3 2 1 from shI_ne x now 3 2 1 (by decide)), (show shI x now 4 2 2 = shI x now 3 2 2 from shI_ne x now 3 2 2 (by decide)), (show shI x now 4 2 3 = shI x now 3 2 3 from shI_ne x now 3 2 3 (by decide)), (show shI x now 4 2 4 = shI x now 3 2 4 from shI_ne x now 3 2 4 (by decide))]
            rw [e]
            exact hh
          refine ⟨⟨4, by omega, rfl, D4I.out.far5 D4O.out hbo hbu HSEP.out _ _ _ _ _ _ _ _ _ _, hO, (Blk.far (Blk.far (Blk.far (Blk.far (Blk.far D4S.out (show sb ≠ ob by omega) _) (show sb ≠ ob by omega) _) (show sb ≠ ob by omega) _) (show sb ≠ ob by omega) _) (show sb ≠ ob by omega) _)⟩, ?_⟩
          simp [intA]; omega
    · obtain rfl : N = k := by omega
      subst h19
      clear g0 n0
      have ho1 : (outA x now N).all (·.oneCell') = true := by unfold outA shc; simp [Value.oneCell']
      have hsz : (Tryz.prog.info? 71).map (·.size) = some (outA x now N).size := (show _ = some 20 by kernel_rfl)
      have hs2 : (#[.int .i64 0, .int .i64 0, .int .i64 0, .int .i64 0, .int .i64 0, .int .i64 0, .int .i64 0, .int .i64 0, .int .i64 0, .int .i64 0, .int .i64 0, .int .i64 0, .int .i64 0, .int .i64 0, .int .i64 0, .int .i64 0, .int .i64 0, .int .i64 0, .int .i64 0, .int .i64 0] : Array Value).size = (outA x now N).size := rfl
      generalize hRV : outA x now N = RV at D0O ho1 hsz hs2
      have HRV := Lib.hid hRV
      clear hRV
      have LD := Lib.hid (run_loadVar_row (P := Tryz.prog) wr ob 71 71 RV (0, 0) _ D0O.out Tryz.underlying71 rfl hsz)
      have ST0 := run_storeVar_row (P := Tryz.prog) wr sb 71 71 _ RV D0S.out hsz hs2 ho1
      obtain ⟨V, hV⟩ : ∃ V, V = wr.setRow sb RV := ⟨_, rfl⟩
      rw [← hV] at ST0
      have ST := Lib.hid ST0
      have VB : Hid (Blk V sb 71 RV) := Lib.hid (by rw [hV]; exact setRow_heap _ _ _ _ _ _ D0S.out)
      have VI : Hid (ShI B w0 u cb gb nb N #[.int .i64 G.cap, .int .i64 G.q, .int .i64 G.ar, .int .i64 G.ag, .int .u64 G.sd, .int .i64 G.t, .int .i64 G.tau, .slice ja N jc] L x now V) := Lib.hid (by
        have hbV : Below sb wr V := by rw [hV]; exact below_setRow (Below.refl _ _) (Nat.le_refl _) _
        exact ⟨⟨D0I.out.h.g.keep fun q hq => hbV.block q (HLT.out.1 q hq), D0I.out.h.bel.trans (hbV.mono hbs), D0I.out.h.own, D0I.out.h.le⟩, (hbV.block cb HLT.out.2.1).trans D0I.out.c, (hbV.block gb HLT.out.2.2.1).trans D0I.out.g, (hbV.block nb HLT.out.2.2.2).trans D0I.out.v, D0I.out.n, D0I.out.lo.trans (hbV.mono hbv)⟩)
      have HSZ := Lib.hid hsz
      clear ho1 hsz hs2 ST0 hV
      go_wp2_with (first | (refine wpList_load_by rfl 71 (.tmp 4) rfl ob 0 (.agg RV) rfl LD.out ?_) | (refine wpList_store_by rfl 71 (.tmp 3) (.tmp 63) rfl sb 0 (.agg RV) V rfl rfl ST.out ?_))
      refine bodyPost_ret (results_cell_row rfl _ _ sb _ _ (0, 0) _ rfl VB.out Tryz.underlying71 rfl HSZ.out) rfl ?_
      exact ⟨by rw [HRV.out], VI.out⟩
end Go.Proofs.YtpgckpafjiojfaaGreatDoor.AD
