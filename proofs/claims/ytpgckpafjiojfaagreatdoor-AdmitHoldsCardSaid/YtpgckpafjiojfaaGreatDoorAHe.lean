/- Contracts of wakemanlaw35.small and Made. -/
import Derived.Test.YtpgckpafjiojfaaGreatDoorAHa
import Derived.Laws.Tables
import Derived.Laws.IdiomStrings
import Derived.Deep.AppendLies
namespace Go.Proofs.YtpgckpafjiojfaaGreatDoor.AD
open Go Go.RowKit BW
open BK (Bx BoxAt Blk only_refl only_drew only_drewN only_setCell only_trans only_of_below only_alloc below_drewN)
def smT (t : Nat) : Int := (t : Int) % 8
def smA (t tau : Nat) : Int := if t % 8 = 0 then 0 else (tau : Int) % 32
set_option maxHeartbeats 1000000 in
theorem small_ok (t tau : Nat) (ht : t < 256) (ha : tau < 256) (w : World) : Calls Tryz.prog 38 #[.int .u8 t, .int .u8 tau] w fun e w' => e = .returned (.agg #[.int .i64 (smT t), .int .i64 (smA t tau)]) ∧ Below w.heap.size w w' := by
  by_cases h0 : t % 8 = 0
  · have hb : (((t : Int) % 8) == 0) = true := by rw [beq_iff_eq]; omega
    have HA : Hid (smA t tau = 0) := Lib.hid (by unfold smA; rw [if_pos h0])
    go_enter Tryz.func38, Tryz.ntmps38
    go_wp2_with fail
    refine bodyPost_ret (results_cell_row rfl _ _ w.heap.size _ _ (0, 0) _ rfl ((Blk.new w _ _).alloc _) Tryz.underlying26 rfl (by kernel_rfl)) rfl ?_
    rw [HA.out]
    exact ⟨rfl, two_boxes w _ _⟩
  · have hb : (((t : Int) % 8) == 0) = false := by rw [beq_eq_false_iff_ne]; omega
    have HA : Hid (smA t tau = (tau : Int) % 32) := Lib.hid (by unfold smA; rw [if_neg h0])
    go_enter Tryz.func38, Tryz.ntmps38
    go_wp2_with fail
    refine bodyPost_ret (results_cell_row rfl _ _ w.heap.size _ _ (0, 0) _ rfl ((Blk.new w _ _).alloc _) Tryz.underlying26 rfl (by kernel_rfl)) rfl ?_
    rw [HA.out]
    exact ⟨rfl, two_boxes w _ _⟩
/-- A region that lays one block at a time of its choosing, and fills it at its end. -/
structure AR (Z : World) (ia it : Nat) (T : TypeId) (z fn : Array Value) (PV : Nat → Value → Prop) (listed : Array Bool) (v : Nat → Value) (W : World) : Prop where
  all : ∀ i, listed[i]? = some true → PV i (v i)
  bel : Below Z.heap.size Z W
  ptr : listed[ia]? = some true → v ia = .pointer (some ⟨blkOf (v ia), 0, none⟩) ∧ Z.heap.size ≤ blkOf (v ia)
  ord : listed[it]? = some true → listed[ia]? = some true
  new : listed[ia]? = some true → listed[it]? = some false → Blk W (blkOf (v ia)) T z
  fin : listed[it]? = some true → Blk W (blkOf (v ia)) T fn
section
variable {Z : World} {ia it : Nat} {T : TypeId} {z fn : Array Value} {PV : Nat → Value → Prop} {listed : Array Bool} {v : Nat → Value} {W W' : World}
theorem AR.start {n : Nat} (v : Nat → Value) : AR Z ia it T z fn PV (Array.replicate n false) v Z.drew :=
  ⟨fun _ hi => (rep_not hi).elim, (Below.refl _ _).drew, fun h => (rep_not h).elim, fun h => (rep_not h).elim, fun h => (rep_not h).elim, fun h => (rep_not h).elim⟩
theorem AR.step (h : AR Z ia it T z fn PV listed v W) {i : Nat} {u : Value} (h1 : i ≠ ia) (h2 : i ≠ it) (hb : Below W.heap.size W W') (hp : PV i u) : AR Z ia it T z fn PV (listed.setIfInBounds i true) (updC v i u) W' := by
  have ta : (listed.setIfInBounds i true)[ia]? = some true → listed[ia]? = some true := fun hz => (set_at _ hz).resolve_left (Ne.symm h1)
  have tt : (listed.setIfInBounds i true)[it]? = some true → listed[it]? = some true := fun hz => (set_at _ hz).resolve_left (Ne.symm h2)
  refine ⟨fun m hm => ?_, h.bel.trans (hb.mono h.bel.size), fun hz => ?_, fun hz => set_keep (h.ord (tt hz)), fun hz hz2 => ?_, fun hz => ?_⟩
  · by_cases e : m = i
    · subst e; rw [updC_eq]; exact hp
    · rw [updC_ne e]; exact h.all m ((set_at m hm).resolve_left e)
  · rw [updC_ne (Ne.symm h1)]; exact h.ptr (ta hz)
  · rw [updC_ne (Ne.symm h1)]
    have := h.new (ta hz) (set_not h2 hz2)
    exact this.below hb this.lt
  · rw [updC_ne (Ne.symm h1)]
    have := h.fin (tt hz)
    exact this.below hb this.lt
theorem AR.lay (h : AR Z ia it T z fn PV listed v W) (hne : ia ≠ it) (hli : listed[ia]? = some false) (hp : ∀ u, PV ia u) : AR Z ia it T z fn PV (listed.setIfInBounds ia true) (updC v ia (.pointer (some ⟨W.heap.size, 0, none⟩))) (W.alloc (.cells z T)) := by
  have hb : Below W.heap.size W (W.alloc (.cells z T)) := (Below.refl _ _).alloc (Nat.le_refl _) _
  refine ⟨fun m hm => ?_, h.bel.trans (hb.mono h.bel.size), fun _ => ?_, fun _ => ?_, fun _ _ => ?_, fun hz => ?_⟩
  · by_cases e : m = ia
    · subst e; rw [updC_eq]; exact hp _
    · rw [updC_ne e]; exact h.all m ((set_at m hm).resolve_left e)
  · rw [updC_eq]; exact ⟨rfl, h.bel.size⟩
  · rw [Array.getElem?_setIfInBounds_self_of_lt (Array.getElem?_eq_some_iff.1 hli).1]
  · rw [updC_eq]; exact Blk.new _ _ _
  · exfalso
    have := h.ord ((set_at it hz).resolve_left (Ne.symm hne))
    rw [hli] at this
    cases this
theorem AR.put (h : AR Z ia it T z fn PV listed v W) (hne : ia ≠ it) (hl : listed[ia]? = some true) (hli : listed[it]? = some false) (hp : ∀ u, PV it u) (u : Value) (hk : Blk W' (blkOf (v ia)) T fn) (hb : Below Z.heap.size W W') : AR Z ia it T z fn PV (listed.setIfInBounds it true) (updC v it u) W' := by
  refine ⟨fun m hm => ?_, h.bel.trans hb, fun hz => ?_, fun _ => set_keep hl, fun _ hz => ?_, fun _ => ?_⟩
  · by_cases e : m = it
    · subst e; rw [updC_eq]; exact hp _
    · rw [updC_ne e]; exact h.all m ((set_at m hm).resolve_left e)
  · rw [updC_ne hne]; exact h.ptr hl
  · rw [Array.getElem?_setIfInBounds_self_of_lt (Array.getElem?_eq_some_iff.1 hli).1] at hz; cases hz
  · rw [updC_ne hne]; exact hk
end
theorem wp_store_by {P : Program} {op : Oper} {a : Act} {w : World} {K : Act → World → Prop} {Q : Exit → Act → World → Prop} (ty : TypeId) (x y : Operand) (ho : op.op = .store ty x y)
    (b o : Nat) (v : Value) (w' : World) (hx : a.eval x = .pointer (some ⟨b, o, none⟩)) (hy : a.eval y = v) (hl : (storeVar ty ⟨b, o, none⟩ v).run P w = .ok () w') (h : K (a.put op.dst undef) w') : op.wp P a w K Q := by
  unfold Oper.wp execOp
  simp only [ho, hx, hy, Instr.storeAt, Instr.sureAddr, Sem.run_bind, Sem.run_pure, Result.andThen_ok, hl]
  exact h
theorem pol_info : (Tryz.prog.info? 55).map (·.size) = some 15 := by kernel_rfl
theorem pol_set {W : World} {b : Nat} {z : Array Value} (h : Blk W b 55 z) (hz : z.size = 15) (y : Po) : (storeVar 55 ⟨b, 0, none⟩ (.agg (poV y))).run Tryz.prog W = .ok () (W.setRow b (poV y)) ∧ Blk (W.setRow b (poV y)) b 55 (poV y) :=
  ⟨run_storeVar_row _ _ _ _ z (poV y) h pol_info hz (by simp [poV, Value.oneCell']), setRow_heap _ _ _ _ _ _ h⟩
/-- Rules as they come in. -/
structure Rl where
  cap : Nat
  t : Nat
  tau : Nat
  fa : Nat
  op : Nat
  pr : Nat
def Rl.ok (r : Rl) : Prop := r.cap < 256 ∧ r.t < 256 ∧ r.tau < 256 ∧ r.fa < 256 ∧ r.op < 256 ∧ r.pr < 256
def nmR (i : Nat) : ByteArray := ⟨#[UInt8.ofNat (97 + i)]⟩
theorem nm_conv (w : World) (k : Nat) (hk : k < 4) : (convert 111 9 (.slice (some ⟨w.heap.size, 0, none⟩) 1 1)).run Tryz.prog (w.alloc (.cells #[.int .u8 (97 + (k : Int))] 5)) = .ok (.string (nmR k)) (w.alloc (.cells #[.int .u8 (97 + (k : Int))] 5)) := by
  have h := run_convert_bytes_back (P := Tryz.prog) (w.alloc (.cells #[.int .u8 (97 + (k : Int))] 5)) 111 9 5 ⟨w.heap.size, 0, none⟩ 1 [UInt8.ofNat (97 + k)] Tryz.underlying111 Tryz.underlying5 Tryz.underlying9 (fun j hj => by
    have : j = 0 := by simpa using hj
    subst this
    have e : ((UInt8.ofNat (97 + k)).toNat : Int) = 97 + (k : Int) := by
      have h2 : (UInt8.ofNat (97 + k)).toNat = 97 + k := by rw [UInt8.toNat_ofNat']; omega
      rw [h2]
      omega
    show _ = some (Value.int .u8 ((UInt8.ofNat (97 + k)).toNat : Int))
    rw [e]
    exact (Blk.new w 5 #[.int .u8 (97 + (k : Int))]).cell 0)
  exact h
def rlC (r : Rl) : Array Value := #[.int .u8 r.cap, .int .u8 r.t, .int .u8 r.tau, .int .u8 r.fa, .int .u8 r.op, .int .u8 r.pr]
def RulesAt (W : World) (a : Option Addr) (rs : List Rl) : Prop := ∀ k (hk : k < rs.length), ∃ b off, a = some ⟨b, off, none⟩ ∧ (∀ i, i < 6 → W.cell? ⟨b, off + k * 6 + i, none⟩ = (rlC rs[k])[i]?) ∧ rs[k].ok
theorem RulesAt.below {W W' : World} {a : Option Addr} {rs : List Rl} (h : RulesAt W a rs) (hb : Below W.heap.size W W') : RulesAt W' a rs := fun k hk => by
  obtain ⟨b, off, e, h1, h2⟩ := h k hk
  refine ⟨b, off, e, fun i hi => ?_, h2⟩
  have hc := h1 i hi
  obtain ⟨v, hv⟩ : ∃ v, (rlC rs[k])[i]? = some v := ⟨_, Array.getElem?_eq_getElem (show i < (rlC rs[k]).size from hi)⟩
  rw [hv] at hc ⊢
  exact (hb.cell (p := ⟨b, off + k * 6 + i, none⟩) (World.block_lt_of_cell? W _ hc)).trans hc
def polR (r : Rl) : Po := ⟨1 + (r.cap : Int) % 4, 0, 0, 0, 0, 0, smT r.t, smA r.t r.tau, if r.fa % 4 = 0 then 0 else (r.fa : Int) % 4, if r.fa % 4 = 0 then 0 else 1 + (r.op : Int) % 32, if r.fa % 4 = 0 then 0 else 1 + (r.pr : Int) % 3, 0, 0, 0, 0⟩
def polS (r : Rl) : Po := ⟨1 + (r.cap : Int) % 4, 0, 0, 0, 0, 0, smT r.t, smA r.t r.tau, 0, 0, 0, 0, 0, 0, 0⟩
def jbR (i : Nat) (r : Rl) : Jb := ⟨nmR i, plE0, polR r⟩
def madeFrom : Nat → List Rl → JL
  | _, [] => []
  | i, r :: rs => (jbR i r, []) :: madeFrom (i + 1) rs
def madeG (lim tau most : Nat) : Gl := ⟨1 + (most : Int) % 8, 1, 0, 1, 0, smT lim, smA lim tau⟩
def zCf : Array Value := #[.int .i64 0, .int .i64 0, .int .i64 0, .int .i64 0, .int .u64 0, .int .i64 0, .int .i64 0, .slice none 0 0]
def zPo : Po := ⟨0, 0, 0, 0, 0, 0, 0, 0, 0, 0, 0, 0, 0, 0, 0⟩
/-- What Made has laid so far. -/
structure MdI (w : World) (cb : Nat) (g : Gl) (v : Value) (L : JL) (W : World) : Prop where
  c8 : Blk W w.heap.size 31 zCf
  cf : Blk W cb 31 #[.int .i64 g.cap, .int .i64 g.q, .int .i64 g.ar, .int .i64 g.ag, .int .u64 g.sd, .int .i64 g.t, .int .i64 g.tau, v]
  own : OwnsC (w.heap.size + 1) v L W
  bel : Below w.heap.size w W
  lo : w.heap.size < cb
theorem MdI.next {w : World} {cb : Nat} {g : Gl} {v : Value} {L : JL} {W X : World} (h : MdI w cb g v L W) (hb : Below W.heap.size W X) : MdI w cb g v L X :=
  ⟨h.c8.below hb h.c8.lt, h.cf.below hb h.cf.lt, own_below h.own hb, h.bel.trans (hb.mono h.bel.size), h.lo⟩
theorem own_mono {B C : Nat} {w : World} {e : TypeId} {s n : Nat} {v : Value} {xs : List Value} (h : w.ownsRow C e s v n xs) (hB : B ≤ C) : w.ownsRow B e s v n xs :=
  ⟨h.1, h.2.imp id fun ⟨g, cap, cur, h1, h2, h3⟩ => ⟨g, cap, cur, h1, Nat.le_trans hB h2, h3⟩⟩
theorem MdI.grown {w : World} {cb : Nat} {g : Gl} {v : Value} {L : JL} {X Y : World} (h : MdI w cb g v L X) (hg : X.grownBy Y v.ownBlock) : Blk Y cb 31 #[.int .i64 g.cap, .int .i64 g.q, .int .i64 g.ar, .int .i64 g.ag, .int .u64 g.sd, .int .i64 g.t, .int .i64 g.tau, v] ∧ Blk Y w.heap.size 31 zCf :=
  ⟨(hg.block _ h.cf.lt (own_blk_ne h.own h.cf (by decide))).trans h.cf, (hg.block _ h.c8.lt (own_blk_ne h.own h.c8 (by decide))).trans h.c8⟩
theorem MdI.push {w : World} {cb : Nat} {g : Gl} {v v' : Value} {L : JL} {X Y : World} (h : MdI w cb g v L X) {j : Jb} (hown : Y.ownsRow (w.heap.size + 1) 57 30 v' (L.length + 1) (cellsJ L ++ (jbV j).toList)) (hg : X.grownBy Y v.ownBlock) : MdI w cb g v' (L ++ [(j, [])]) (Y.setCell ⟨cb, 7, none⟩ v') := by
  obtain ⟨h1, h2⟩ := h.grown hg
  have hlo := h.lo
  have hwX := h.bel.size
  refine ⟨h2.far (by show w.heap.size ≠ cb; omega) _, h1.set_ 7 v', ?_, ?_, h.lo⟩
  · unfold OwnsC
    rw [cellsJ_snoc, List.length_append]
    exact own_set hown h1 (by decide) 7 v'
  · refine (h.bel.grown hg hwX fun j ej => ?_).setCell (Nat.le_of_lt hlo) v'
    rcases Nat.lt_or_ge j (w.heap.size + 1) with h' | h'
    · exact absurd ej.symm (own_ge h.own h')
    · omega
theorem own_farb {W : World} {B : Nat} {e : TypeId} {s n b : Nat} {v : Value} {xs : List Value} (h : W.ownsRow B e s v n xs) (hb : b < B) (o : Nat) (u : Value) : (W.setCell ⟨b, o, none⟩ u).ownsRow B e s v n xs :=
  ⟨h.1, h.2.imp id fun ⟨g, cap, cur, h1, h2, h3, h4⟩ => ⟨g, cap, cur, h1, h2, Blk.far (show Blk W g e cur from h3) (by show g ≠ b; omega) u, h4⟩⟩
theorem blk8s {w : World} {b : Nat} {T : TypeId} {cs : Array Value} (h : Blk w b T cs) (hs : cs.size = 8) (v0 v1 v2 v3 v4 v5 v6 v7 : Value) :
    Blk ((((((((w.setCell ⟨b, 0, none⟩ v0).setCell ⟨b, 1, none⟩ v1).setCell ⟨b, 2, none⟩ v2).setCell ⟨b, 3, none⟩ v3).setCell ⟨b, 4, none⟩ v4).setCell ⟨b, 5, none⟩ v5).setCell ⟨b, 6, none⟩ v6).setCell ⟨b, 7, none⟩ v7) b T #[v0, v1, v2, v3, v4, v5, v6, v7] := by
  obtain ⟨c0, c1, c2, c3, c4, c5, c6, c7, rfl⟩ : ∃ c0 c1 c2 c3 c4 c5 c6 c7, cs = #[c0, c1, c2, c3, c4, c5, c6, c7] := by
    obtain ⟨l⟩ := cs
    match l, hs with
    | [c0, c1, c2, c3, c4, c5, c6, c7], _ => exact ⟨c0, c1, c2, c3, c4, c5, c6, c7, rfl⟩
  have h' := (((((((h.set_ 0 v0).set_ 1 v1).set_ 2 v2).set_ 3 v3).set_ 4 v4).set_ 5 v5).set_ 6 v6).set_ 7 v7
  simpa using h'
theorem MdI.far8 {w : World} {cb : Nat} {g : Gl} {v : Value} {L : JL} {X : World} {b : Nat} {cs : Array Value} (h : MdI w cb g v L X) (hb : Blk X b 55 cs) (hl : w.heap.size ≤ b) (o : Nat) (u : Value) : MdI w cb g v L (X.setCell ⟨b, o, none⟩ u) :=
  ⟨h.c8.far (blk_ne h.c8 hb (by decide)) u, h.cf.far (blk_ne h.cf hb (by decide)) u, own_set h.own hb (by decide) o u, h.bel.setCell hl u, h.lo⟩
theorem madeFrom_len (l : List Rl) : ∀ i, (madeFrom i l).length = l.length := by
  induction l with
  | nil => intro i; rfl
  | cons a l ih => intro i; simp [madeFrom, ih]
theorem madeFrom_snoc (l : List Rl) (r : Rl) : ∀ i, madeFrom i (l ++ [r]) = madeFrom i l ++ [(jbR (i + l.length) r, [])] := by
  induction l with
  | nil => intro i; rfl
  | cons a l ih =>
    intro i
    simp only [List.cons_append, madeFrom, ih (i + 1), List.length_cons]
    rw [show i + 1 + l.length = i + (l.length + 1) by omega]
theorem made_take {rs : List Rl} {m : Nat} (h : m = min rs.length 4) : (rs.take 4).length = m ∧ ∀ k, k < m → ∃ r, rs[k]? = some r ∧ madeFrom 0 ((rs.take 4).take (k + 1)) = madeFrom 0 ((rs.take 4).take k) ++ [(jbR k r, [])] := by
  have hl : (rs.take 4).length = m := by rw [List.length_take, h]; omega
  refine ⟨hl, fun k hk => ?_⟩
  have hk2 : k < rs.length := by omega
  refine ⟨rs[k], List.getElem?_eq_getElem hk2, ?_⟩
  rw [List.take_succ_eq_append_getElem (by omega), madeFrom_snoc]
  have e1 : (rs.take 4)[k]'(by omega) = rs[k] := by simp
  have e2 : ((rs.take 4).take k).length = k := by rw [List.length_take]; omega
  rw [e1, e2, Nat.zero_add]
/-- What the operations of Made's drawn region have yielded. -/
def P7 (b : Nat) (r : Rl) (i : Nat) (v : Value) : Prop := match i with
  | 0 => v = .pointer (some ⟨b, 0, none⟩)
  | 1 => v = .int .u8 r.cap
  | 2 => v = .int .i64 r.cap
  | 3 => v = .int .i64 ((r.cap : Int) % 4)
  | 4 => v = .int .i64 (1 + (r.cap : Int) % 4)
  | 5 => v = .pointer (some ⟨b, 1, none⟩)
  | 6 => v = .int .u8 r.t
  | 7 => v = .pointer (some ⟨b, 2, none⟩)
  | 8 => v = .int .u8 r.tau
  | 9 => v = .agg #[.int .i64 (smT r.t), .int .i64 (smA r.t r.tau)]
  | 10 => v = .agg (poV (polS r))
  | _ => True

-- the region's own law, as a lemma about a world

set_option maxRecDepth 16000 in
set_option maxHeartbeats 1200000 in
theorem made_ok (rs : List Rl) (a : Option Addr) (n c : Nat) (hn : rs.length = n) (lim tau most : Nat) (h1 : lim < 256) (h2 : tau < 256) (h3 : most < 256) (hn0 : 0 < n) (h9 : n ≤ 9223372036854775807) (hnc : n ≤ c) (w : World) (hA : RulesAt w a rs) :
    Calls Tryz.prog 8 #[.slice a n c, .int .u8 lim, .int .u8 tau, .int .u8 most] w fun e w' => ∃ a' c', e = .returned (.agg (cfV ⟨madeG lim tau most, a', (rs.take 4).length, c'⟩)) ∧ OwnsC w.heap.size (.slice a' (rs.take 4).length c') (madeFrom 0 (rs.take 4)) w' ∧ Below w.heap.size w w' := by
  have SM := Lib.hid (small_ok lim tau h1 h2)
  have HA := Lib.hid hA
  have HN := Lib.hid hn
  clear hA hn
  go_enter Tryz.func8, Tryz.ntmps8
  go_wp2_with fail
  refine (SM.out _).mono ?_
  rintro e_ w1 ⟨rfl, hb⟩
  obtain ⟨W2, hW2⟩ : ∃ W2, W2 = w1.alloc (.cells #[.int .i64 (1 + (most : Int) % 8), .int .i64 1, .int .i64 0, .int .i64 1, .int .u64 0, .int .i64 (smT lim), .int .i64 (smA lim tau), .slice none 0 0] 31) := ⟨_, rfl⟩
  have hz : ((n : Int) == 0) = false := by rw [beq_eq_false_iff_ne]; omega
  obtain ⟨m, HMM⟩ : ∃ m, Hid (m = min n 4) := ⟨_, Lib.hid rfl⟩
  have hm : min (n : Int) 4 = (m : Int) := by have := HMM.out; omega
  have hmc : m ≤ c := by have := HMM.out; omega
  have hmn : m ≤ n := by have := HMM.out; omega
  have hm4 : m ≤ 4 := by have := HMM.out; omega
  have C8 : Hid (Blk W2 w.heap.size 31 zCf) := Lib.hid (by rw [hW2]; exact ((Blk.new w _ _).below hb (by simp)).alloc _)
  have hb0 : Below w.heap.size w w1 := ((Below.refl _ w).alloc (Nat.le_refl _) _).trans (hb.mono (by simp))
  have hwl : w.heap.size < w1.heap.size := by have := hb.size; simp at this; omega
  have MI : Hid (MdI w w1.heap.size (madeG lim tau most) (.slice none 0 0) [] W2) := Lib.hid ⟨C8.out, by rw [hW2]; exact Blk.new _ _ _, ⟨rfl, .inl ⟨rfl, rfl⟩⟩, by rw [hW2]; exact hb0.alloc hb0.size _, hwl⟩
  have HMT : Hid ((rs.take 4).length = m ∧ ∀ k, k < m → ∃ r, rs[k]? = some r ∧ madeFrom 0 ((rs.take 4).take (k + 1)) = madeFrom 0 ((rs.take 4).take k) ++ [(jbR k r, [])]) := Lib.hid (made_take (by rw [HN.out]; exact HMM.out))
  have hlast : Hid ((rs.take 4).take m = rs.take 4) := Lib.hid (List.take_of_length_le (by rw [HMT.out.1]; exact Nat.le_refl _))
  go_upto_region 2 with fail
  rw [← hW2]
  generalize w1.heap.size = cb at *
  clear hW2 C8 hb hb0
  go_wp2_with fail
  go_loopw [33] (fun s33 wr => ∃ k : Nat, k ≤ m ∧ s33 = .int .i64 k ∧ ∃ v, MdI w cb (madeG lim tau most) v (madeFrom 0 ((rs.take 4).take k)) wr) (fun s33 _ => m - intA s33)
  case atStart => exact ⟨0, Nat.zero_le _, rfl, _, by rw [List.take_zero]; exact MI.out⟩
  case round =>
    obtain ⟨k, hk, rfl, v, hI⟩ := hrel
    have HI := Lib.hid hI
    clear hI MI SM hm hz
    rcases Nat.lt_or_ge k m with hlt | hge
    · obtain ⟨r, hr, htk⟩ := HMT.out.2 k hlt
      obtain ⟨b, off, rfl, hc, hok⟩ := (HA.out.below HI.out.bel) k (List.getElem?_eq_some_iff.1 hr).1
      rw [(List.getElem?_eq_some_iff.1 hr).2] at hc hok
      have HTK := Lib.hid htk
      have HOK := Lib.hid hok
      have c0 : wr.cell? ⟨b, off + k * 6, none⟩ = some (.int .u8 r.cap) := hc 0 (by decide)
      have c1 : wr.cell? ⟨b, off + k * 6 + 1, none⟩ = some (.int .u8 r.t) := hc 1 (by decide)
      have c2 : wr.cell? ⟨b, off + k * 6 + 2, none⟩ = some (.int .u8 r.tau) := hc 2 (by decide)
      have c3 : wr.cell? ⟨b, off + k * 6 + 3, none⟩ = some (.int .u8 r.fa) := hc 3 (by decide)
      have c4 : wr.cell? ⟨b, off + k * 6 + 4, none⟩ = some (.int .u8 r.op) := hc 4 (by decide)
      have c5 : wr.cell? ⟨b, off + k * 6 + 5, none⟩ = some (.int .u8 r.pr) := hc 5 (by decide)
      obtain ⟨hk1, hk2, hk3, hk4, hk5, hk6⟩ := hok
      clear hc htk hr
      go_upto_region 7 with fail
      obtain ⟨X1, hX1⟩ : ∃ X1, X1 = wr.alloc (.cells #[.int .u8 r.cap, .int .u8 r.t, .int .u8 r.tau, .int .u8 r.fa, .int .u8 r.op, .int .u8 r.pr] 110) := ⟨_, rfl⟩
      have hbX : Below wr.heap.size wr X1 := by rw [hX1]; exact (Below.refl _ _).alloc (Nat.le_refl _) _
      have RB : Hid (Blk X1 wr.heap.size 110 (rlC r)) := Lib.hid (by rw [hX1]; exact Blk.new _ _ _)
      have IX := Lib.hid (HI.out.next hbX)
      rw [← hX1]
      generalize wr.heap.size = b11 at *
      clear hX1 hbX c0 c1 c2 c3 c4 c5
      have hw1 : IntKind.i64.wrap (r.cap : Int) = (r.cap : Int) := IntWalk.i64_in _ (by omega)
      have hw2 : IntKind.i64.wrap (1 + (r.cap : Int) % 4) = 1 + (r.cap : Int) % 4 := IntWalk.i64_in _ (by omega)
      refine wp_region_put (R := AR X1 11 12 55 (poV zPo) (poV (polS r)) (P7 b11 r)) (by kernel_rfl) (by kernel_rfl) (by kernel_rfl) (by kernel_rfl) ?_ ?_ ?_
      · exact fun v => AR.start v
      · intro Q' K listed v wx i o hsz ho hli ha hR hK
        have HV := Lib.hid hR
        have dep := fun d hd => hR.all d (dep_listed ha d hd)
        have hi : i < 13 := (List.getElem?_eq_some_iff.1 ho).1
        clear hR hsz
        obtain rfl | rfl | rfl | rfl | rfl | rfl | rfl | rfl | rfl | rfl | rfl | rfl | rfl : i = 0 ∨ i = 1 ∨ i = 2 ∨ i = 3 ∨ i = 4 ∨ i = 5 ∨ i = 6 ∨ i = 7 ∨ i = 8 ∨ i = 9 ∨ i = 10 ∨ i = 11 ∨ i = 12 := by omega
        · -- operation 0
          cases ho
          simp only [putFrom, Act.put, List.setIfInBounds_toArray, List.set_cons_succ, List.set_cons_zero] at hK ⊢
          go_simp
          exact hK _ _ (HV.out.step (by decide) (by decide) (Below.refl _ _) rfl)
        · -- operation 1
          cases ho
          have h0 := dep 0 (by kernel_rfl)
          replace h0 : v 0 = _ := h0
          have c : wx.cell? ⟨b11, 0, none⟩ = some (.int .u8 r.cap) := (RB.out.below HV.out.bel RB.out.lt).cell 0
          simp only [putFrom, Act.put, List.setIfInBounds_toArray, List.set_cons_succ, List.set_cons_zero, h0] at hK ⊢
          go_simp
          exact hK _ _ (HV.out.step (by decide) (by decide) (Below.refl _ _) rfl)
        · -- operation 2
          cases ho
          have h1 := dep 1 (by kernel_rfl)
          replace h1 : v 1 = _ := h1
          simp only [putFrom, Act.put, List.setIfInBounds_toArray, List.set_cons_succ, List.set_cons_zero, h1] at hK ⊢
          go_simp
          exact hK _ _ (HV.out.step (by decide) (by decide) (Below.refl _ _) rfl)
        · -- operation 3
          cases ho
          have h2 := dep 2 (by kernel_rfl)
          replace h2 : v 2 = _ := h2
          simp only [putFrom, Act.put, List.setIfInBounds_toArray, List.set_cons_succ, List.set_cons_zero, h2] at hK ⊢
          go_simp
          exact hK _ _ (HV.out.step (by decide) (by decide) (Below.refl _ _) rfl)
        · -- operation 4
          cases ho
          have h3 := dep 3 (by kernel_rfl)
          replace h3 : v 3 = _ := h3
          simp only [putFrom, Act.put, List.setIfInBounds_toArray, List.set_cons_succ, List.set_cons_zero, h3] at hK ⊢
          go_simp
          exact hK _ _ (HV.out.step (by decide) (by decide) (Below.refl _ _) rfl)
        · -- operation 5
          cases ho
          simp only [putFrom, Act.put, List.setIfInBounds_toArray, List.set_cons_succ, List.set_cons_zero] at hK ⊢
          go_simp
          exact hK _ _ (HV.out.step (by decide) (by decide) (Below.refl _ _) rfl)
        · -- operation 6
          cases ho
          have h5 := dep 5 (by kernel_rfl)
          replace h5 : v 5 = _ := h5
          have c : wx.cell? ⟨b11, 1, none⟩ = some (.int .u8 r.t) := (RB.out.below HV.out.bel RB.out.lt).cell 1
          simp only [putFrom, Act.put, List.setIfInBounds_toArray, List.set_cons_succ, List.set_cons_zero, h5] at hK ⊢
          go_simp
          exact hK _ _ (HV.out.step (by decide) (by decide) (Below.refl _ _) rfl)
        · -- operation 7
          cases ho
          simp only [putFrom, Act.put, List.setIfInBounds_toArray, List.set_cons_succ, List.set_cons_zero] at hK ⊢
          go_simp
          exact hK _ _ (HV.out.step (by decide) (by decide) (Below.refl _ _) rfl)
        · -- operation 8
          cases ho
          have h7 := dep 7 (by kernel_rfl)
          replace h7 : v 7 = _ := h7
          have c : wx.cell? ⟨b11, 2, none⟩ = some (.int .u8 r.tau) := (RB.out.below HV.out.bel RB.out.lt).cell 2
          simp only [putFrom, Act.put, List.setIfInBounds_toArray, List.set_cons_succ, List.set_cons_zero, h7] at hK ⊢
          go_simp
          exact hK _ _ (HV.out.step (by decide) (by decide) (Below.refl _ _) rfl)
        · -- operation 9
          cases ho
          have h6 := dep 6 (by kernel_rfl)
          replace h6 : v 6 = _ := h6
          have h8 := dep 8 (by kernel_rfl)
          replace h8 : v 8 = _ := h8
          simp only [putFrom, Act.put, List.setIfInBounds_toArray, List.set_cons_succ, List.set_cons_zero, h6, h8] at hK ⊢
          go_simp
          refine (small_ok r.t r.tau HOK.out.2.1 HOK.out.2.2.1 wx).mono ?_
          rintro _ w5 ⟨rfl, hb⟩
          exact hK _ _ (HV.out.step (by decide) (by decide) hb rfl)
        · -- operation 10
          cases ho
          have h4 := dep 4 (by kernel_rfl)
          replace h4 : v 4 = _ := h4
          have h9 := dep 9 (by kernel_rfl)
          replace h9 : v 9 = _ := h9
          simp only [putFrom, Act.put, List.setIfInBounds_toArray, List.set_cons_succ, List.set_cons_zero, h4, h9] at hK ⊢
          go_simp
          exact hK _ _ (HV.out.step (by decide) (by decide) (Below.refl _ _) rfl)
        · -- operation 11
          cases ho
          simp only [putFrom, Act.put, List.setIfInBounds_toArray, List.set_cons_succ, List.set_cons_zero] at hK ⊢
          go_simp
          exact hK _ _ (HV.out.lay (by decide) hli (fun _ => trivial))
        · -- operation 12
          cases ho
          have h10 := dep 10 (by kernel_rfl)
          replace h10 : v 10 = _ := h10
          have hp := HV.out.ptr (dep_listed ha 11 (by kernel_rfl))
          have hn := HV.out.new (dep_listed ha 11 (by kernel_rfl)) hli
          have HP := Lib.hid hp
          have hpe := hp.1
          have hpl := hp.2
          clear hp
          generalize hbq : blkOf (v 11) = bq at hpe hpl hn
          have HBQ := Lib.hid hbq
          clear hbq
          have hps := pol_set hn rfl (polS r)
          simp only [putFrom, Act.put, List.setIfInBounds_toArray, List.set_cons_succ, List.set_cons_zero, h10, hpe] at hK ⊢
          refine wp_store_by 55 _ _ rfl bq 0 (.agg (poV (polS r))) _ rfl rfl hps.1 ?_
          exact hK undef _ (HV.out.put (by decide) (dep_listed ha 11 (by kernel_rfl)) hli (fun _ => trivial) undef (by rw [HBQ.out]; exact hps.2) (below_setRow (Below.refl _ _) hpl _))
      · intro v2 listed W2 hall hR
        have hp := hR.ptr (hall 11 (by decide))
        have hf := hR.fin (hall 12 (by decide))
        have hpe := hp.1
        have hpl := hp.2
        generalize blkOf (v2 11) = bq at hpe hpl hf
        have PB := Lib.hid hf
        have hpl' : w.heap.size ≤ bq := Nat.le_trans IX.out.bel.size hpl
        have BX := Lib.hid hR.bel
        have I2 := Lib.hid (IX.out.next hR.bel)
        have RB2 := Lib.hid (RB.out.below hR.bel RB.out.lt)
        simp only [putFrom, Act.put, List.setIfInBounds_toArray, List.set_cons_succ, List.set_cons_zero, hpe]
        clear hp hf hR hall hpe IX RB
        have d3 : W2.cell? ⟨b11, 3, none⟩ = some (.int .u8 r.fa) := RB2.out.cell 3
        by_cases hf0 : r.fa % 4 = 0
        · have hfb : decide (0 < (r.fa : Int) % 4) = false := by simp; omega
          go_upto_region 10 with fail
          have PB3 : Blk W2 bq 55 (poV (polR r)) := by
            have := PB.out
            rwa [show polS r = polR r from by unfold polS polR; rw [if_pos hf0, if_pos hf0, if_pos hf0]] at this
          have I3 := Lib.hid I2.out
          clear I2 PB RB2 BX
          generalize W2 = V at *
          have hy : Hid (∃ y, y = polR r) := Lib.hid ⟨_, rfl⟩
          obtain ⟨y, hy⟩ := hy.out
          have HY := Lib.hid hy
          rw [← hy] at PB3
          have PBH := Lib.hid PB3
          have k7 : V.cell? ⟨cb, 7, none⟩ = some v := I3.out.cf.cell 7
          have CV := nm_conv V k (by omega)
          have y0 : V.cell? ⟨bq, 0, none⟩ = some (.int .i64 y.cap) := PBH.out.cell 0
          have y1 : V.cell? ⟨bq, 1, none⟩ = some (.int .i64 y.pri) := PBH.out.cell 1
          have y2 : V.cell? ⟨bq, 2, none⟩ = some (.int .i64 y.spl) := PBH.out.cell 2
          have y3 : V.cell? ⟨bq, 3, none⟩ = some (.int .i64 y.ddl) := PBH.out.cell 3
          have y4 : V.cell? ⟨bq, 4, none⟩ = some (.int .i64 y.mis) := PBH.out.cell 4
          have y5 : V.cell? ⟨bq, 5, none⟩ = some (.int .i64 y.keep) := PBH.out.cell 5
          have y6 : V.cell? ⟨bq, 6, none⟩ = some (.int .i64 y.t) := PBH.out.cell 6
          have y7 : V.cell? ⟨bq, 7, none⟩ = some (.int .i64 y.tau) := PBH.out.cell 7
          have y8 : V.cell? ⟨bq, 8, none⟩ = some (.int .i64 y.f) := PBH.out.cell 8
          have y9 : V.cell? ⟨bq, 9, none⟩ = some (.int .i64 y.o) := PBH.out.cell 9
          have y10 : V.cell? ⟨bq, 10, none⟩ = some (.int .i64 y.r) := PBH.out.cell 10
          have y11 : V.cell? ⟨bq, 11, none⟩ = some (.int .i64 y.m) := PBH.out.cell 11
          have y12 : V.cell? ⟨bq, 12, none⟩ = some (.int .i64 y.b) := PBH.out.cell 12
          have y13 : V.cell? ⟨bq, 13, none⟩ = some (.int .i64 y.c) := PBH.out.cell 13
          have y14 : V.cell? ⟨bq, 14, none⟩ = some (.int .i64 y.j) := PBH.out.cell 14
          have hblt : bq < V.heap.size := PBH.out.lt
          obtain ⟨i0, hi0, hz0, hz1, hz2⟩ := info_parts info_job
          have hml1 : k + 1 ≤ maxLen := by unfold maxLen; omega
          have hml2 : (k + 1) * 256 ≤ 140737488355328 := by omega
          have hvs : w.heap.size + 1 ≤ V.heap.size := by have h1 := I3.out.lo; have h2 := I3.out.cf.lt; omega
          have hml3 : w.heap.size + 1 ≤ ((V.alloc (.cells #[.int .u8 (97 + (k : Int))] 5)).alloc (.cells #[.string (nmR k), .int .i64 0, .int .u64 0, .int .u64 0, .int .u64 0, .int .u64 0, .int .u64 0, .int .u64 0, .bool false, .bool false, .int .i64 0, .int .i64 0, .int .i64 0, .int .i64 0, .slice none 0 0, .int .i64 y.cap, .int .i64 y.pri, .int .i64 y.spl, .int .i64 y.ddl, .int .i64 y.mis, .int .i64 y.keep, .int .i64 y.t, .int .i64 y.tau, .int .i64 y.f, .int .i64 y.o, .int .i64 y.r, .int .i64 y.m, .int .i64 y.b, .int .i64 y.c, .int .i64 y.j] 57)).heap.size := by simp; omega
          have HLN : Hid ((madeFrom 0 ((rs.take 4).take k)).length = k) := Lib.hid (by rw [madeFrom_len, List.length_take, HMT.out.1]; omega)
          have HROW := I3.out.own
          unfold OwnsC at HROW
          rw [HLN.out] at HROW
          have HROW := Lib.hid HROW
          have I4 := Lib.hid (I3.out.next (two_boxes V (.cells #[.int .u8 (97 + (k : Int))] 5) (.cells #[.string (nmR k), .int .i64 0, .int .u64 0, .int .u64 0, .int .u64 0, .int .u64 0, .int .u64 0, .int .u64 0, .bool false, .bool false, .int .i64 0, .int .i64 0, .int .i64 0, .int .i64 0, .slice none 0 0, .int .i64 y.cap, .int .i64 y.pri, .int .i64 y.spl, .int .i64 y.ddl, .int .i64 y.mis, .int .i64 y.keep, .int .i64 y.t, .int .i64 y.tau, .int .i64 y.f, .int .i64 y.o, .int .i64 y.r, .int .i64 y.m, .int .i64 y.b, .int .i64 y.c, .int .i64 y.j] 57)))
          have HRN := Lib.hid (show ∀ (i : Nat) (u : Value), ([.string (nmR k), .int .i64 0, .int .u64 0, .int .u64 0, .int .u64 0, .int .u64 0, .int .u64 0, .int .u64 0, .bool false, .bool false, .int .i64 0, .int .i64 0, .int .i64 0, .int .i64 0, .slice none 0 0, .int .i64 y.cap, .int .i64 y.pri, .int .i64 y.spl, .int .i64 y.ddl, .int .i64 y.mis, .int .i64 y.keep, .int .i64 y.t, .int .i64 y.tau, .int .i64 y.f, .int .i64 y.o, .int .i64 y.r, .int .i64 y.m, .int .i64 y.b, .int .i64 y.c, .int .i64 y.j] : List Value)[i]? = some u → ((V.alloc (.cells #[.int .u8 (97 + (k : Int))] 5)).alloc (.cells #[.string (nmR k), .int .i64 0, .int .u64 0, .int .u64 0, .int .u64 0, .int .u64 0, .int .u64 0, .int .u64 0, .bool false, .bool false, .int .i64 0, .int .i64 0, .int .i64 0, .int .i64 0, .slice none 0 0, .int .i64 y.cap, .int .i64 y.pri, .int .i64 y.spl, .int .i64 y.ddl, .int .i64 y.mis, .int .i64 y.keep, .int .i64 y.t, .int .i64 y.tau, .int .i64 y.f, .int .i64 y.o, .int .i64 y.r, .int .i64 y.m, .int .i64 y.b, .int .i64 y.c, .int .i64 y.j] 57)).cell? ((⟨V.heap.size + 1, 0, none⟩ : Addr).add i) = some u from row_new (cs := #[.string (nmR k), .int .i64 0, .int .u64 0, .int .u64 0, .int .u64 0, .int .u64 0, .int .u64 0, .int .u64 0, .bool false, .bool false, .int .i64 0, .int .i64 0, .int .i64 0, .int .i64 0, .slice none 0 0, .int .i64 y.cap, .int .i64 y.pri, .int .i64 y.spl, .int .i64 y.ddl, .int .i64 y.mis, .int .i64 y.keep, .int .i64 y.t, .int .i64 y.tau, .int .i64 y.f, .int .i64 y.o, .int .i64 y.r, .int .i64 y.m, .int .i64 y.b, .int .i64 y.c, .int .i64 y.j]) (T := 57) (blk_newAt (by simp)))
          have HPJ := Lib.hid (show ∀ u ∈ ([.string (nmR k), .int .i64 0, .int .u64 0, .int .u64 0, .int .u64 0, .int .u64 0, .int .u64 0, .int .u64 0, .bool false, .bool false, .int .i64 0, .int .i64 0, .int .i64 0, .int .i64 0, .slice none 0 0, .int .i64 y.cap, .int .i64 y.pri, .int .i64 y.spl, .int .i64 y.ddl, .int .i64 y.mis, .int .i64 y.keep, .int .i64 y.t, .int .i64 y.tau, .int .i64 y.f, .int .i64 y.o, .int .i64 y.r, .int .i64 y.m, .int .i64 y.b, .int .i64 y.c, .int .i64 y.j] : List Value), u.oneCell' = true from jbV_one ⟨nmR k, plE0, y⟩)
          clear hy PB3 d3
          go_wp2_with (first | (at_builtin; refine wpList_append_lies _ rfl _ _ 29 rfl (w.heap.size + 1) 57 i0 (.agg zJ) 30 256 Tryz.underlying29 hi0 hz0 hz1 hz2 rfl (by decide) v k _ rfl (own_alloc (own_alloc HROW.out _) _) ⟨V.heap.size + 1, 0, none⟩ 1 1 ([.string (nmR k), .int .i64 0, .int .u64 0, .int .u64 0, .int .u64 0, .int .u64 0, .int .u64 0, .int .u64 0, .bool false, .bool false, .int .i64 0, .int .i64 0, .int .i64 0, .int .i64 0, .slice none 0 0, .int .i64 y.cap, .int .i64 y.pri, .int .i64 y.spl, .int .i64 y.ddl, .int .i64 y.mis, .int .i64 y.keep, .int .i64 y.t, .int .i64 y.tau, .int .i64 y.f, .int .i64 y.o, .int .i64 y.r, .int .i64 y.m, .int .i64 y.b, .int .i64 y.c, .int .i64 y.j] : List Value) rfl rfl HRN.out HPJ.out (by decide) hml1 hml2 hml3 _ rfl ?_; intro g8 cap8 w8 hown8 hgrow8 _ _; have hg8 := (I4.out.grown hgrow8).1; have c7 : w8.cell? ⟨cb, 7, none⟩ = some v := hg8.cell 7; have f7 : w8.frozen? ⟨cb, 7, none⟩ = false := hg8.frozen 7; have HP := Lib.hid (I4.out.push (j := ⟨nmR k, plE0, y⟩) (by rw [HLN.out]; exact hown8) hgrow8); clear hg8 hown8 hgrow8))
          refine ⟨⟨k + 1, by omega, by go_num, _, by rw [HTK.out]; have := HP.out; rw [HY.out] at this; exact this⟩, ?_⟩
          simp [intA]; omega
        · have hfb : decide (0 < (r.fa : Int) % 4) = true := by simp; omega
          have d4 : W2.cell? ⟨b11, 4, none⟩ = some (.int .u8 r.op) := RB2.out.cell 4
          have d5 : W2.cell? ⟨b11, 5, none⟩ = some (.int .u8 r.pr) := RB2.out.cell 5
          have e8 : W2.cell? ⟨bq, 8, none⟩ = some (.int .i64 0) := PB.out.cell 8
          have e9 : W2.cell? ⟨bq, 9, none⟩ = some (.int .i64 0) := PB.out.cell 9
          have e10 : W2.cell? ⟨bq, 10, none⟩ = some (.int .i64 0) := PB.out.cell 10
          have ez : ∀ o, W2.frozen? ⟨bq, o, none⟩ = false := fun o => PB.out.frozen o
          go_upto_region 10 with fail
          obtain ⟨V, hV⟩ : ∃ V, V = ((W2.setCell ⟨bq, 8, none⟩ (.int .i64 ((r.fa : Int) % 4))).setCell ⟨bq, 9, none⟩ (.int .i64 (1 + (r.op : Int) % 32))).setCell ⟨bq, 10, none⟩ (.int .i64 (1 + (r.pr : Int) % 3)) := ⟨_, rfl⟩
          have PB3 : Blk V bq 55 (poV (polR r)) := by
            have := ((PB.out.set_ 8 (.int .i64 ((r.fa : Int) % 4))).set_ 9 (.int .i64 (1 + (r.op : Int) % 32))).set_ 10 (.int .i64 (1 + (r.pr : Int) % 3))
            rw [hV]
            have e : poV (polR r) = (((poV (polS r)).setIfInBounds 8 (.int .i64 ((r.fa : Int) % 4))).setIfInBounds 9 (.int .i64 (1 + (r.op : Int) % 32))).setIfInBounds 10 (.int .i64 (1 + (r.pr : Int) % 3)) := by
              unfold polS polR poV
              rw [if_neg hf0, if_neg hf0, if_neg hf0]
              rfl
            rw [e]
            exact this
          have I3 : Hid (MdI w cb (madeG lim tau most) v (madeFrom 0 ((rs.take 4).take k)) V) := Lib.hid (by
            rw [hV]
            exact ((I2.out.far8 PB.out hpl' _ _).far8 (PB.out.set_ 8 _) hpl' _ _).far8 ((PB.out.set_ 8 _).set_ 9 _) hpl' _ _)
          rw [← hV]
          clear hV I2 PB RB2 BX d4 d5 e8 e9 e10 ez
          have hy : Hid (∃ y, y = polR r) := Lib.hid ⟨_, rfl⟩
          obtain ⟨y, hy⟩ := hy.out
          have HY := Lib.hid hy
          rw [← hy] at PB3
          have PBH := Lib.hid PB3
          have k7 : V.cell? ⟨cb, 7, none⟩ = some v := I3.out.cf.cell 7
          have CV := nm_conv V k (by omega)
          have y0 : V.cell? ⟨bq, 0, none⟩ = some (.int .i64 y.cap) := PBH.out.cell 0
          have y1 : V.cell? ⟨bq, 1, none⟩ = some (.int .i64 y.pri) := PBH.out.cell 1
          have y2 : V.cell? ⟨bq, 2, none⟩ = some (.int .i64 y.spl) := PBH.out.cell 2
          have y3 : V.cell? ⟨bq, 3, none⟩ = some (.int .i64 y.ddl) := PBH.out.cell 3
          have y4 : V.cell? ⟨bq, 4, none⟩ = some (.int .i64 y.mis) := PBH.out.cell 4
          have y5 : V.cell? ⟨bq, 5, none⟩ = some (.int .i64 y.keep) := PBH.out.cell 5
          have y6 : V.cell? ⟨bq, 6, none⟩ = some (.int .i64 y.t) := PBH.out.cell 6
          have y7 : V.cell? ⟨bq, 7, none⟩ = some (.int .i64 y.tau) := PBH.out.cell 7
          have y8 : V.cell? ⟨bq, 8, none⟩ = some (.int .i64 y.f) := PBH.out.cell 8
          have y9 : V.cell? ⟨bq, 9, none⟩ = some (.int .i64 y.o) := PBH.out.cell 9
          have y10 : V.cell? ⟨bq, 10, none⟩ = some (.int .i64 y.r) := PBH.out.cell 10
          have y11 : V.cell? ⟨bq, 11, none⟩ = some (.int .i64 y.m) := PBH.out.cell 11
          have y12 : V.cell? ⟨bq, 12, none⟩ = some (.int .i64 y.b) := PBH.out.cell 12
          have y13 : V.cell? ⟨bq, 13, none⟩ = some (.int .i64 y.c) := PBH.out.cell 13
          have y14 : V.cell? ⟨bq, 14, none⟩ = some (.int .i64 y.j) := PBH.out.cell 14
          have hblt : bq < V.heap.size := PBH.out.lt
          obtain ⟨i0, hi0, hz0, hz1, hz2⟩ := info_parts info_job
          have hml1 : k + 1 ≤ maxLen := by unfold maxLen; omega
          have hml2 : (k + 1) * 256 ≤ 140737488355328 := by omega
          have hvs : w.heap.size + 1 ≤ V.heap.size := by have h1 := I3.out.lo; have h2 := I3.out.cf.lt; omega
          have hml3 : w.heap.size + 1 ≤ ((V.alloc (.cells #[.int .u8 (97 + (k : Int))] 5)).alloc (.cells #[.string (nmR k), .int .i64 0, .int .u64 0, .int .u64 0, .int .u64 0, .int .u64 0, .int .u64 0, .int .u64 0, .bool false, .bool false, .int .i64 0, .int .i64 0, .int .i64 0, .int .i64 0, .slice none 0 0, .int .i64 y.cap, .int .i64 y.pri, .int .i64 y.spl, .int .i64 y.ddl, .int .i64 y.mis, .int .i64 y.keep, .int .i64 y.t, .int .i64 y.tau, .int .i64 y.f, .int .i64 y.o, .int .i64 y.r, .int .i64 y.m, .int .i64 y.b, .int .i64 y.c, .int .i64 y.j] 57)).heap.size := by simp; omega
          have HLN : Hid ((madeFrom 0 ((rs.take 4).take k)).length = k) := Lib.hid (by rw [madeFrom_len, List.length_take, HMT.out.1]; omega)
          have HROW := I3.out.own
          unfold OwnsC at HROW
          rw [HLN.out] at HROW
          have HROW := Lib.hid HROW
          have I4 := Lib.hid (I3.out.next (two_boxes V (.cells #[.int .u8 (97 + (k : Int))] 5) (.cells #[.string (nmR k), .int .i64 0, .int .u64 0, .int .u64 0, .int .u64 0, .int .u64 0, .int .u64 0, .int .u64 0, .bool false, .bool false, .int .i64 0, .int .i64 0, .int .i64 0, .int .i64 0, .slice none 0 0, .int .i64 y.cap, .int .i64 y.pri, .int .i64 y.spl, .int .i64 y.ddl, .int .i64 y.mis, .int .i64 y.keep, .int .i64 y.t, .int .i64 y.tau, .int .i64 y.f, .int .i64 y.o, .int .i64 y.r, .int .i64 y.m, .int .i64 y.b, .int .i64 y.c, .int .i64 y.j] 57)))
          have HRN := Lib.hid (show ∀ (i : Nat) (u : Value), ([.string (nmR k), .int .i64 0, .int .u64 0, .int .u64 0, .int .u64 0, .int .u64 0, .int .u64 0, .int .u64 0, .bool false, .bool false, .int .i64 0, .int .i64 0, .int .i64 0, .int .i64 0, .slice none 0 0, .int .i64 y.cap, .int .i64 y.pri, .int .i64 y.spl, .int .i64 y.ddl, .int .i64 y.mis, .int .i64 y.keep, .int .i64 y.t, .int .i64 y.tau, .int .i64 y.f, .int .i64 y.o, .int .i64 y.r, .int .i64 y.m, .int .i64 y.b, .int .i64 y.c, .int .i64 y.j] : List Value)[i]? = some u → ((V.alloc (.cells #[.int .u8 (97 + (k : Int))] 5)).alloc (.cells #[.string (nmR k), .int .i64 0, .int .u64 0, .int .u64 0, .int .u64 0, .int .u64 0, .int .u64 0, .int .u64 0, .bool false, .bool false, .int .i64 0, .int .i64 0, .int .i64 0, .int .i64 0, .slice none 0 0, .int .i64 y.cap, .int .i64 y.pri, .int .i64 y.spl, .int .i64 y.ddl, .int .i64 y.mis, .int .i64 y.keep, .int .i64 y.t, .int .i64 y.tau, .int .i64 y.f, .int .i64 y.o, .int .i64 y.r, .int .i64 y.m, .int .i64 y.b, .int .i64 y.c, .int .i64 y.j] 57)).cell? ((⟨V.heap.size + 1, 0, none⟩ : Addr).add i) = some u from row_new (cs := #[.string (nmR k), .int .i64 0, .int .u64 0, .int .u64 0, .int .u64 0, .int .u64 0, .int .u64 0, .int .u64 0, .bool false, .bool false, .int .i64 0, .int .i64 0, .int .i64 0, .int .i64 0, .slice none 0 0, .int .i64 y.cap, .int .i64 y.pri, .int .i64 y.spl, .int .i64 y.ddl, .int .i64 y.mis, .int .i64 y.keep, .int .i64 y.t, .int .i64 y.tau, .int .i64 y.f, .int .i64 y.o, .int .i64 y.r, .int .i64 y.m, .int .i64 y.b, .int .i64 y.c, .int .i64 y.j]) (T := 57) (blk_newAt (by simp)))
          have HPJ := Lib.hid (show ∀ u ∈ ([.string (nmR k), .int .i64 0, .int .u64 0, .int .u64 0, .int .u64 0, .int .u64 0, .int .u64 0, .int .u64 0, .bool false, .bool false, .int .i64 0, .int .i64 0, .int .i64 0, .int .i64 0, .slice none 0 0, .int .i64 y.cap, .int .i64 y.pri, .int .i64 y.spl, .int .i64 y.ddl, .int .i64 y.mis, .int .i64 y.keep, .int .i64 y.t, .int .i64 y.tau, .int .i64 y.f, .int .i64 y.o, .int .i64 y.r, .int .i64 y.m, .int .i64 y.b, .int .i64 y.c, .int .i64 y.j] : List Value), u.oneCell' = true from jbV_one ⟨nmR k, plE0, y⟩)
          clear hy PB3 d3
          go_wp2_with (first | (at_builtin; refine wpList_append_lies _ rfl _ _ 29 rfl (w.heap.size + 1) 57 i0 (.agg zJ) 30 256 Tryz.underlying29 hi0 hz0 hz1 hz2 rfl (by decide) v k _ rfl (own_alloc (own_alloc HROW.out _) _) ⟨V.heap.size + 1, 0, none⟩ 1 1 ([.string (nmR k), .int .i64 0, .int .u64 0, .int .u64 0, .int .u64 0, .int .u64 0, .int .u64 0, .int .u64 0, .bool false, .bool false, .int .i64 0, .int .i64 0, .int .i64 0, .int .i64 0, .slice none 0 0, .int .i64 y.cap, .int .i64 y.pri, .int .i64 y.spl, .int .i64 y.ddl, .int .i64 y.mis, .int .i64 y.keep, .int .i64 y.t, .int .i64 y.tau, .int .i64 y.f, .int .i64 y.o, .int .i64 y.r, .int .i64 y.m, .int .i64 y.b, .int .i64 y.c, .int .i64 y.j] : List Value) rfl rfl HRN.out HPJ.out (by decide) hml1 hml2 hml3 _ rfl ?_; intro g8 cap8 w8 hown8 hgrow8 _ _; have hg8 := (I4.out.grown hgrow8).1; have c7 : w8.cell? ⟨cb, 7, none⟩ = some v := hg8.cell 7; have f7 : w8.frozen? ⟨cb, 7, none⟩ = false := hg8.frozen 7; have HP := Lib.hid (I4.out.push (j := ⟨nmR k, plE0, y⟩) (by rw [HLN.out]; exact hown8) hgrow8); clear hg8 hown8 hgrow8))
          refine ⟨⟨k + 1, by omega, by go_num, _, by rw [HTK.out]; have := HP.out; rw [HY.out] at this; exact this⟩, ?_⟩
          simp [intA]; omega
    · obtain rfl : m = k := by omega
      obtain ⟨a2, c2, hv, -, -⟩ := HI.out.own.shape
      have HLN : Hid ((madeFrom 0 ((rs.take 4).take m)).length = m) := Lib.hid (by rw [madeFrom_len, hlast.out, HMT.out.1])
      rw [HLN.out] at hv
      subst hv
      generalize hn2 : m = n2 at *
      have k0 : wr.cell? ⟨cb, 0, none⟩ = some (.int .i64 (madeG lim tau most).cap) := HI.out.cf.cell 0
      have k1 : wr.cell? ⟨cb, 1, none⟩ = some (.int .i64 (madeG lim tau most).q) := HI.out.cf.cell 1
      have k2 : wr.cell? ⟨cb, 2, none⟩ = some (.int .i64 (madeG lim tau most).ar) := HI.out.cf.cell 2
      have k3 : wr.cell? ⟨cb, 3, none⟩ = some (.int .i64 (madeG lim tau most).ag) := HI.out.cf.cell 3
      have k4 : wr.cell? ⟨cb, 4, none⟩ = some (.int .u64 (madeG lim tau most).sd) := HI.out.cf.cell 4
      have k5 : wr.cell? ⟨cb, 5, none⟩ = some (.int .i64 (madeG lim tau most).t) := HI.out.cf.cell 5
      have k6 : wr.cell? ⟨cb, 6, none⟩ = some (.int .i64 (madeG lim tau most).tau) := HI.out.cf.cell 6
      have k7 : wr.cell? ⟨cb, 7, none⟩ = some (.slice a2 n2 c2) := HI.out.cf.cell 7
      have z0 : wr.cell? ⟨w.heap.size, 0, none⟩ = some (.int .i64 0) := HI.out.c8.cell 0
      have z1 : wr.cell? ⟨w.heap.size, 1, none⟩ = some (.int .i64 0) := HI.out.c8.cell 1
      have z2 : wr.cell? ⟨w.heap.size, 2, none⟩ = some (.int .i64 0) := HI.out.c8.cell 2
      have z3 : wr.cell? ⟨w.heap.size, 3, none⟩ = some (.int .i64 0) := HI.out.c8.cell 3
      have z4 : wr.cell? ⟨w.heap.size, 4, none⟩ = some (.int .u64 0) := HI.out.c8.cell 4
      have z5 : wr.cell? ⟨w.heap.size, 5, none⟩ = some (.int .i64 0) := HI.out.c8.cell 5
      have z6 : wr.cell? ⟨w.heap.size, 6, none⟩ = some (.int .i64 0) := HI.out.c8.cell 6
      have z7 : wr.cell? ⟨w.heap.size, 7, none⟩ = some (.slice none 0 0) := HI.out.c8.cell 7
      have fz : ∀ o, wr.frozen? ⟨w.heap.size, o, none⟩ = false := fun o => HI.out.c8.frozen o
      generalize hmg : madeG lim tau most = mg at *
      have HMG := Lib.hid hmg
      clear hmg hn2
      have hlo := HI.out.lo
      go_wp2_with fail
      have HZ := blk8s HI.out.c8 rfl (.int .i64 mg.cap) (.int .i64 mg.q) (.int .i64 mg.ar) (.int .i64 mg.ag) (.int .u64 mg.sd) (.int .i64 mg.t) (.int .i64 mg.tau) (.slice a2 n2 c2)
      refine bodyPost_ret (results_cell_row rfl _ _ w.heap.size _ _ (0, 0) _ rfl HZ Tryz.underlying31 rfl (by kernel_rfl)) rfl ?_
      have e4 : (rs.take 4).length = n2 := HMT.out.1
      rw [e4]
      refine ⟨a2, c2, by rw [HMG.out]; rfl, ?_, ?_⟩
      · have ho := HI.out.own
        rw [hlast.out] at ho
        refine own_mono (C := w.heap.size + 1) ?_ (Nat.le_succ _)
        refine own_farb (own_farb (own_farb (own_farb (own_farb (own_farb (own_farb (own_farb ho ?_ _ _) ?_ _ _) ?_ _ _) ?_ _ _) ?_ _ _) ?_ _ _) ?_ _ _) ?_ _ _
        all_goals exact Nat.lt_succ_self _
      · exact (((((((HI.out.bel.setCell (Nat.le_refl _) _).setCell (Nat.le_refl _) _).setCell (Nat.le_refl _) _).setCell (Nat.le_refl _) _).setCell (Nat.le_refl _) _).setCell (Nat.le_refl _) _).setCell (Nat.le_refl _) _).setCell (Nat.le_refl _) _

end Go.Proofs.YtpgckpafjiojfaaGreatDoor.AD
