/- Contracts of the reference's config.Copy and config.Equal. -/
import Derived.Test.YtihadbkjfocdoaaGreatDoorCNamesW
namespace Go.Proofs.YtihadbkjfocdoaaGreatDoor.BW
open Go.RowKit BM Go.Shelf MC RK
open BK hiding ret_bool ret_i64

/-- A load whose outcome is known in every world of the class, in a region that draws its order. -/
theorem wpQuiet_load_by {P : Program} {ops : Array Oper} {C : World → Prop} {Q : Act → Prop} {rest : List Oper} {op : Oper} {a : Act} (hw : Region.wanted op (yielded ops a.tmps) = true) (ty : TypeId) (x : Operand) (ho : op.op = .load ty x)
    (b o : Nat) (v : Value) (hx : a.eval x = .pointer (some ⟨b, o, none⟩)) (hl : ∀ w, C w → (loadVar ty ⟨b, o, none⟩).run P w = .ok v w)
    (h : wpQuiet P ops C Q rest (a.put op.dst v)) : wpQuiet P ops C Q (op :: rest) a := by
  refine wpQuiet_step fun K hK => ?_
  rw [if_pos hw]
  refine ⟨v, fun w hc => ?_, hK _ h⟩
  unfold Oper.quietAt execOp
  simp only [ho, hx, Instr.loadAt, Instr.sureAddr, Sem.run_bind, Sem.run_pure, Result.andThen_ok, hl w hc]
  exact ⟨rfl, rfl⟩
theorem OwnsS.other {B base : Nat} {v u : Value} {ys : List (Int × Int)} {L : JL} {W X : World} (h : OwnsS B v ys W) (ho : OwnsC base u L W) (hg : W.grownBy X u.ownBlock) : OwnsS B v ys X :=
  ⟨h.1, h.2.imp id fun ⟨g, cap, cur, h1, h2, h3, h4⟩ => ⟨g, cap, cur, h1, h2, (hg.block g (Array.getElem?_eq_some_iff.1 h3).1 (fun e => by
    rcases ho.2 with ⟨rfl, _⟩ | ⟨g', cap', cur', rfl, _, k3, _⟩
    · simp [Value.ownBlock] at e
    · have : g = g' := by simpa [Value.ownBlock] using e
      subst this
      rw [h3] at k3
      injection k3 with k3
      injection k3 with _ k4
      exact absurd k4 (by decide))).trans h3, h4⟩⟩
theorem cellsJ_snoc (L : JL) (y : Jb × List (Int × Int)) : cellsJ (L ++ [y]) = cellsJ L ++ (jbV y.1).toList := by
  unfold cellsJ
  rw [List.flatMap_append]
  simp
/-- The jobs that the reference's copy has so far, each with spans of its own. -/
structure RcI (w : World) (c : Cf) (L : JL) (v : Value) (L' : JL) (W : World) : Prop where
  bx : Blk W w.heap.size 29 (cfV c)
  bz : Blk W (w.heap.size + 1) 29 #[.int .i64 0, .int .i64 0, .int .i64 0, .int .i64 0, .int .u64 0, .int .i64 0, .int .i64 0, .slice none 0 0]
  own : OwnsC (w.heap.size + 2) v L' W
  new : ∀ i (hi : i < L'.length), ∃ x l a' c', L[i]? = some (x, l) ∧ L'[i] = (x.withS a' c', l) ∧ OwnsS (w.heap.size + 2) (.slice a' x.p.n c') l W
  below : Below w.heap.size w W
  size : w.heap.size + 2 ≤ W.heap.size
theorem OwnsC.below {B : Nat} {v : Value} {L : JL} {W X : World} (h : OwnsC B v L W) (hb : Below W.heap.size W X) : OwnsC B v L X :=
  ⟨h.1, h.2.imp id fun ⟨g, cap, cur, h1, h2, h3, h4⟩ => ⟨g, cap, cur, h1, h2, (hb.block g (Array.getElem?_eq_some_iff.1 h3).1).trans h3, h4⟩⟩
theorem RcI.next {w : World} {c : Cf} {L L' : JL} {v : Value} {X Y : World} (h : RcI w c L v L' X) (hb : Below X.heap.size X Y) : RcI w c L v L' Y :=
  ⟨h.bx.below hb h.bx.lt, h.bz.below hb h.bz.lt, h.own.below hb, fun i hi => by
    obtain ⟨x, l, a', c', h1, h2, h3⟩ := h.new i hi
    exact ⟨x, l, a', c', h1, h2, h3.below hb⟩, h.below.trans (hb.mono h.below.size), Nat.le_trans h.size hb.size⟩
theorem RcI.push {w : World} {c : Cf} {L L' : JL} {v v' : Value} {X Y : World} {tmp : Obj} (h : RcI w c L v L' X) {x : Jb} {l : List (Int × Int)} {a' : Option Addr} {c' : Nat} (hx : L[L'.length]? = some (x, l)) (ho : OwnsS (w.heap.size + 2) (.slice a' x.p.n c') l X)
    (hown' : Y.ownsRow (w.heap.size + 2) 60 30 v' (L'.length + 1) (cellsJ L' ++ (jbV (x.withS a' c')).toList)) (hgrow : (X.alloc tmp).grownBy Y v.ownBlock) : RcI w c L v' (L' ++ [(x.withS a' c', l)]) Y := by
  have hrow : X.ownsRow (w.heap.size + 2) 60 30 v L'.length (cellsJ L') := h.own
  have hs : X.heap.size + 1 ≤ Y.heap.size := by have := hgrow.size; simpa using this
  have hba := (Below.refl X.heap.size X).alloc (Nat.le_refl _) tmp
  have hra : OwnsC (w.heap.size + 2) v L' (X.alloc tmp) := h.own.below hba
  refine ⟨blk_app h.bx (by omega) hrow hgrow, blk_app h.bz (by omega) hrow hgrow, by unfold OwnsC; rw [cellsJ_snoc]; simpa using hown', fun i hi => ?_, ?_, by have := h.size; omega⟩
  · rcases Nat.lt_or_ge i L'.length with hlt | hge
    · obtain ⟨y, m, a2, c2, h1, h2, h3⟩ := h.new i hlt
      exact ⟨y, m, a2, c2, h1, by rw [List.getElem_append_left hlt]; exact h2, (h3.below hba).other hra hgrow⟩
    · have : i = L'.length := by simp at hi; omega
      subst this
      exact ⟨x, l, a', c', hx, by simp, (ho.below hba).other hra hgrow⟩
  · refine h.below.trans (((Below.refl w.heap.size X).alloc (by have := h.below.size; omega) tmp).grown hgrow (by simp; have := h.below.size; omega) fun j ej => ?_)
    rcases Nat.lt_or_ge j (w.heap.size + 2) with h' | h'
    · exact absurd ej.symm (own_ge hrow h')
    · omega
/-- A copy of the jobs, all of its memory from B on. -/
structure CopyR (B : Nat) (W : World) (a : Option Addr) (L L' : JL) : Prop where
  len : L'.length = L.length
  at_ : 0 < L.length → ∃ g, a = some ⟨g, 0, none⟩ ∧ B ≤ g ∧ RowC W g L' ∧ ∀ (i : Nat) (x : Jb) (l : List (Int × Int)), L[i]? = some (x, l) → ∃ a' c', L'[i]? = some (x.withS a' c', l) ∧ OwnsS B (.slice a' x.p.n c') l W
theorem CopyR.set {B : Nat} {W : World} {a : Option Addr} {L L' : JL} (h : CopyR B W a L L') {b : Nat} (hb : b < B) (o : Nat) (u : Value) : CopyR B (W.setCell ⟨b, o, none⟩ u) a L L' :=
  ⟨h.len, fun h0 => by
    obtain ⟨g, h1, h2, h3, h4⟩ := h.at_ h0
    exact ⟨g, h1, h2, h3.far (by omega) u, fun i x l hx => by
      obtain ⟨a', c', h5, h6⟩ := h4 i x l hx
      exact ⟨a', c', h5, h6.far hb u⟩⟩⟩
theorem RcI.copy {w : World} {c : Cf} {L L' : JL} {a : Option Addr} {n cap : Nat} {W : World} (h : RcI w c L (.slice a n cap) L' W) (hl : L'.length = L.length) : CopyR (w.heap.size + 2) W a L L' := by
  refine ⟨hl, fun h0 => ?_⟩
  obtain ⟨a2, c2, he, hs, hs2⟩ := h.own.shape
  injection he with h1 h2 h3
  obtain ⟨g, hg⟩ := hs2 (by omega)
  subst h1
  obtain ⟨g', e1, e2⟩ := hs _ hg
  injection e1 with e1
  subst e1
  refine ⟨g, hg, e2, ?_, fun i x l hx => ?_⟩
  · have hr := h.own
    rw [hg] at hr
    exact hr.row
  · have hi : i < L'.length := by rw [hl]; exact (List.getElem?_eq_some_iff.1 hx).1
    obtain ⟨y, m, a', c', h4, h5, h6⟩ := h.new i hi
    rw [hx] at h4
    injection h4 with h4
    injection h4 with h7 h8
    subst h7 h8
    exact ⟨a', c', by rw [List.getElem?_eq_getElem hi, h5], h6⟩
theorem jb_plan_set {W : World} {b : Nat} {x : Jb} (h : Blk W b 60 (jbV x)) (a' : Option Addr) (c' : Nat) : JbAt (W.setCells b 1 (plV (x.p.withS a' c')).toList) b 0 (x.withS a' c') := by
  have hr : RowC W b [(x, [])] := fun i hi j hj => by
    have : i = 0 := by simpa using hi
    subst this
    exact ⟨by simpa using h.cell (0 * 30 + j), h.frozen _⟩
  intro i hi
  have := ((hr.store 0 (by simp) a' c') 0 (by simp) i hi).1
  simpa using this
theorem JbAt.polR {wr : World} {b o : Nat} {j : Jb} (h : JbAt wr b o j) (hb : b < wr.heap.size) : ∀ w', (∃ p : Regrown, w' = Sort.grow (redrawn wr p.d) p.os) → (loadVar 58 ⟨b, o + 15, none⟩).run Tryz.prog w' = .ok (.agg (poV j.y)) w' := fun _ ⟨p, e⟩ => by
  subst e
  exact (h.below (below_regrown wr p.d p.os) hb).pol
theorem JbAt.planR {wr : World} {b o : Nat} {j : Jb} (h : JbAt wr b o j) (hb : b < wr.heap.size) : ∀ w', (∃ p : Regrown, w' = Sort.grow (redrawn wr p.d) p.os) → (loadVar 52 ⟨b, o + 1, none⟩).run Tryz.prog w' = .ok (.agg (plV j.p)) w' := fun _ ⟨p, e⟩ => by
  subst e
  exact (h.below (below_regrown wr p.d p.os) hb).plan
theorem jb_there {W : World} {b : Nat} {x : Jb} (h : Blk W b 60 (jbV x)) : W.there b 1 14 := fun j hj => ⟨by
  rw [h.cell, Array.getElem?_eq_getElem (show 1 + j < (jbV x).size from show 1 + j < 30 by omega)]; rfl, h.frozen _⟩
theorem jbV_one (x : Jb) : ∀ u ∈ (jbV x).toList, u.oneCell' = true := by
  intro u hu
  have : ((jbV x).toList.all (·.oneCell')) = true := by simp [jbV, Value.oneCell']
  exact List.all_eq_true.1 this u hu
theorem ret_cfg {g : Gl} {a : Option Addr} {n c : Nat} : (Ending.returned (.agg #[.int .i64 g.cap, .int .i64 g.q, .int .i64 g.ar, .int .i64 g.ag, .int .u64 g.sd, .int .i64 g.t, .int .i64 g.tau, .slice a n c]) : Ending) = .returned (.agg (cfV ⟨g, a, n, c⟩)) := rfl
set_option maxRecDepth 8000 in
set_option maxHeartbeats 8000000 in
theorem rccopy_ok (c : Cf) (L : JL) (w : World) (h1 : EqA w c.a c.n L) (hn9 : c.n ≤ 200) : Calls Tryz.prog 20 #[.agg (cfV c)] w fun e w' => ∃ a cap L', e = .returned (.agg (cfV ⟨c.g, a, c.n, cap⟩)) ∧ CopyR w.heap.size w' a L L' ∧ Below w.heap.size w w' := by
  obtain ⟨i0, hi0, hz0, hz1, hz2⟩ := info_parts info_job
  obtain ⟨W1, hW1⟩ : ∃ W1, W1 = (w.alloc (.cells (cfV c) 29)).alloc (.cells #[.int .i64 0, .int .i64 0, .int .i64 0, .int .i64 0, .int .u64 0, .int .i64 0, .int .i64 0, .slice none 0 0] 29) := ⟨_, rfl⟩
  have H1 : Hid (RcI w c L (.slice none 0 0) [] W1) := Lib.hid (by
    rw [hW1]
    exact ⟨(Blk.new w _ _).alloc _, Blk.newAt (by simp), ⟨rfl, .inl ⟨rfl, rfl⟩⟩, fun i hi => absurd hi (Nat.not_lt_zero _), ((Below.refl _ w).alloc (Nat.le_refl _) _).alloc (by simp) _, by simp⟩)
  have HA := Lib.hid h1
  have HN := Lib.hid h1.n
  rw [hW1, cfV_eq] at H1
  rw [cfV_eq]
  clear hW1 h1
  obtain ⟨cg, ca, cn, cc⟩ := c
  simp only at *
  go_enter Tryz.func20, Tryz.ntmps20
  go_wp2_with fail
  go_loopw [3, 4, 5] (fun s3 s4 _ wr => ∃ k : Nat, k ≤ cn ∧ s4 = .int .i64 k ∧ ∃ L', L'.length = k ∧ RcI w ⟨cg, ca, cn, cc⟩ L s3 L' wr) (fun _ s4 _ _ => cn - intJ s4)
  case atStart => exact ⟨0, Nat.zero_le _, rfl, [], rfl, H1.out⟩
  case round =>
    clear H1
    obtain ⟨k, hk, rfl, L', hlen, hI⟩ := hrel
    have HI := Lib.hid hI
    have HLN := Lib.hid hlen
    have hsz := hI.size
    have p7 : wr.cell? ⟨w.heap.size, 7, none⟩ = some (.slice ca cn cc) := hI.bx.cell 7
    rcases Nat.lt_or_ge k cn with hlt | hge
    · obtain ⟨x, l, hxl, ⟨b, off, rfl, hld⟩, _, hx9⟩ := (HA.out.below hI.below).get hlt
      have hbl : Below wr.heap.size wr (wr.alloc (.cells (jbV x) 60)) := (Below.refl _ wr).alloc (Nat.le_refl _) _
      obtain ⟨x', l', hxl', _, hpx, _⟩ := (HA.out.below (hI.below.trans (hbl.mono hI.below.size))).get hlt
      obtain ⟨rfl, rfl⟩ : x = x' ∧ l = l' := by rw [hxl] at hxl'; injection hxl' with h; injection h with h1 h2; exact ⟨h1, h2⟩
      have LJ := Lib.hid hld
      have ST := Lib.hid (jb_store wr x)
      have hbk : Blk (wr.alloc (.cells (jbV x) 60)) wr.heap.size 60 (jbV x) := Blk.new wr _ _
      have LP := Lib.hid (JbAt.box hbk).plan
      have CC := Lib.hid (rcopy_ok x.p l _ hpx hx9)
      have HBK := Lib.hid hbk
      have HBL := Lib.hid hbl
      have HXL := Lib.hid hxl
      have HHI := Lib.hid (fun (w4 : World) (hb : Below wr.heap.size wr w4) => HI.out.next hb)
      have hbr : 0 < wr.heap.size := by omega
      clear hI hlen hxl hxl' hpx hx9 hld hbl hbk
      go_wp2_with (first | (refine wpList_load_by rfl 60 _ rfl b (off + k * 30) (.agg (jbV x)) rfl LJ.out ?_) | (refine wpList_store_by rfl 60 _ _ rfl wr.heap.size 0 (.agg (jbV x)) _ rfl rfl ST.out ?_) | (refine wpList_load_by rfl 52 _ rfl wr.heap.size (0 + 1) (.agg (plV x.p)) rfl LP.out ?_))
      refine (CC.out).mono ?_
      rintro e_ w3 ⟨a', c', rfl, ho, hb⟩
      obtain ⟨w4, hw4⟩ : ∃ w4, w4 = w3.setCells wr.heap.size 1 (plV (x.p.withS a' c')).toList := ⟨_, rfl⟩
      have hbk3 := HBK.out.below hb (by simp)
      have SP : Hid ((storeVar 52 ⟨wr.heap.size, 1, none⟩ (.agg (plV (x.p.withS a' c')))).run Tryz.prog w3 = .ok () w4) := Lib.hid (by
        rw [hw4]
        exact run_storeVar_mid w3 wr.heap.size 1 52 (plV (x.p.withS a' c')) (jb_there hbk3) pl_info (by simp [plV, Value.oneCell']))
      have hbk4 : JbAt w4 wr.heap.size 0 (x.withS a' c') := by rw [hw4]; exact jb_plan_set hbk3 a' c'
      have LB := Lib.hid (jb_load (o := 0) hbk4)
      have hb4 : Below wr.heap.size wr w4 := by
        rw [hw4]
        exact below_setCells (Nat.le_refl _) _ _ _ (HBL.out.trans (hb.mono (by simp)))
      have HI4 := Lib.hid (HHI.out w4 hb4)
      have HO4 : Hid (OwnsS (w.heap.size + 2) (.slice a' x.p.n c') l w4) := Lib.hid (by
        rw [hw4]
        exact (ho.farS (g := wr.heap.size) (by simp) _ _ _).mono (by simp; omega))
      have hsz4 : wr.heap.size ≤ w4.heap.size := hb4.size
      have e30 : jbV (x.withS a' c') = #[.string x.nm, .int .i64 x.p.k, .int .u64 x.p.x.s, .int .u64 x.p.x.mi, .int .u64 x.p.x.h, .int .u64 x.p.x.d, .int .u64 x.p.x.mo, .int .u64 x.p.x.w, .bool x.p.x.ad, .bool x.p.x.aw, .int .i64 x.p.z, .int .i64 x.p.e.s, .int .i64 x.p.e.p, .int .i64 x.p.e.c, .slice a' x.p.n c', .int .i64 x.y.cap, .int .i64 x.y.pri, .int .i64 x.y.spl, .int .i64 x.y.ddl, .int .i64 x.y.mis, .int .i64 x.y.keep, .int .i64 x.y.t, .int .i64 x.y.tau, .int .i64 x.y.f, .int .i64 x.y.o, .int .i64 x.y.r, .int .i64 x.y.m, .int .i64 x.y.b, .int .i64 x.y.c, .int .i64 x.y.j] := rfl
      rw [e30] at LB
      have hml1 : k + 1 ≤ maxLen := by unfold maxLen; omega
      have hml2 : (k + 1) * 256 ≤ 140737488355328 := by omega
      have hml3 : w.heap.size + 2 ≤ (w4.alloc (.cells #[.string x.nm, .int .i64 x.p.k, .int .u64 x.p.x.s, .int .u64 x.p.x.mi, .int .u64 x.p.x.h, .int .u64 x.p.x.d, .int .u64 x.p.x.mo, .int .u64 x.p.x.w, .bool x.p.x.ad, .bool x.p.x.aw, .int .i64 x.p.z, .int .i64 x.p.e.s, .int .i64 x.p.e.p, .int .i64 x.p.e.c, .slice a' x.p.n c', .int .i64 x.y.cap, .int .i64 x.y.pri, .int .i64 x.y.spl, .int .i64 x.y.ddl, .int .i64 x.y.mis, .int .i64 x.y.keep, .int .i64 x.y.t, .int .i64 x.y.tau, .int .i64 x.y.f, .int .i64 x.y.o, .int .i64 x.y.r, .int .i64 x.y.m, .int .i64 x.y.b, .int .i64 x.y.c, .int .i64 x.y.j] 60)).heap.size := by simp; omega
      have HROW := Lib.hid (show w4.ownsRow (w.heap.size + 2) 60 30 _ L'.length (cellsJ L') from HI4.out.own)
      rw [HLN.out] at HROW
      have HRN := Lib.hid (show ∀ (i : Nat) (u : Value), ([.string x.nm, .int .i64 x.p.k, .int .u64 x.p.x.s, .int .u64 x.p.x.mi, .int .u64 x.p.x.h, .int .u64 x.p.x.d, .int .u64 x.p.x.mo, .int .u64 x.p.x.w, .bool x.p.x.ad, .bool x.p.x.aw, .int .i64 x.p.z, .int .i64 x.p.e.s, .int .i64 x.p.e.p, .int .i64 x.p.e.c, .slice a' x.p.n c', .int .i64 x.y.cap, .int .i64 x.y.pri, .int .i64 x.y.spl, .int .i64 x.y.ddl, .int .i64 x.y.mis, .int .i64 x.y.keep, .int .i64 x.y.t, .int .i64 x.y.tau, .int .i64 x.y.f, .int .i64 x.y.o, .int .i64 x.y.r, .int .i64 x.y.m, .int .i64 x.y.b, .int .i64 x.y.c, .int .i64 x.y.j] : List Value)[i]? = some u → (w4.alloc (.cells #[.string x.nm, .int .i64 x.p.k, .int .u64 x.p.x.s, .int .u64 x.p.x.mi, .int .u64 x.p.x.h, .int .u64 x.p.x.d, .int .u64 x.p.x.mo, .int .u64 x.p.x.w, .bool x.p.x.ad, .bool x.p.x.aw, .int .i64 x.p.z, .int .i64 x.p.e.s, .int .i64 x.p.e.p, .int .i64 x.p.e.c, .slice a' x.p.n c', .int .i64 x.y.cap, .int .i64 x.y.pri, .int .i64 x.y.spl, .int .i64 x.y.ddl, .int .i64 x.y.mis, .int .i64 x.y.keep, .int .i64 x.y.t, .int .i64 x.y.tau, .int .i64 x.y.f, .int .i64 x.y.o, .int .i64 x.y.r, .int .i64 x.y.m, .int .i64 x.y.b, .int .i64 x.y.c, .int .i64 x.y.j] 60)).cell? ((⟨w4.heap.size, 0, none⟩ : Addr).add i) = some u from row_new (Blk.new w4 60 (jbV (x.withS a' c'))))
      have HPJ := Lib.hid (show ∀ u ∈ ([.string x.nm, .int .i64 x.p.k, .int .u64 x.p.x.s, .int .u64 x.p.x.mi, .int .u64 x.p.x.h, .int .u64 x.p.x.d, .int .u64 x.p.x.mo, .int .u64 x.p.x.w, .bool x.p.x.ad, .bool x.p.x.aw, .int .i64 x.p.z, .int .i64 x.p.e.s, .int .i64 x.p.e.p, .int .i64 x.p.e.c, .slice a' x.p.n c', .int .i64 x.y.cap, .int .i64 x.y.pri, .int .i64 x.y.spl, .int .i64 x.y.ddl, .int .i64 x.y.mis, .int .i64 x.y.keep, .int .i64 x.y.t, .int .i64 x.y.tau, .int .i64 x.y.f, .int .i64 x.y.o, .int .i64 x.y.r, .int .i64 x.y.m, .int .i64 x.y.b, .int .i64 x.y.c, .int .i64 x.y.j] : List Value), u.oneCell' = true from jbV_one (x.withS a' c'))
      clear ho hb hw4 hbk3 hbk4 hb4 e30 HHI HBL HBK LJ ST LP CC
      go_wp2_with (first | (refine wpList_store_by rfl 52 _ _ rfl wr.heap.size 1 (.agg (plV (x.p.withS a' c'))) _ rfl rfl SP.out ?_) | (refine wpList_load_by rfl 60 _ rfl wr.heap.size 0 (.agg #[.string x.nm, .int .i64 x.p.k, .int .u64 x.p.x.s, .int .u64 x.p.x.mi, .int .u64 x.p.x.h, .int .u64 x.p.x.d, .int .u64 x.p.x.mo, .int .u64 x.p.x.w, .bool x.p.x.ad, .bool x.p.x.aw, .int .i64 x.p.z, .int .i64 x.p.e.s, .int .i64 x.p.e.p, .int .i64 x.p.e.c, .slice a' x.p.n c', .int .i64 x.y.cap, .int .i64 x.y.pri, .int .i64 x.y.spl, .int .i64 x.y.ddl, .int .i64 x.y.mis, .int .i64 x.y.keep, .int .i64 x.y.t, .int .i64 x.y.tau, .int .i64 x.y.f, .int .i64 x.y.o, .int .i64 x.y.r, .int .i64 x.y.m, .int .i64 x.y.b, .int .i64 x.y.c, .int .i64 x.y.j]) rfl LB.out ?_) | (at_builtin; refine wpList_append_own _ rfl _ _ 27 rfl (w.heap.size + 2) 60 i0 (.agg zJ) 30 256 Tryz.underlying27 hi0 hz0 hz1 hz2 rfl (by decide) _ _ _ rfl (own_alloc HROW.out _) ⟨w4.heap.size, 0, none⟩ 1 1 ([.string x.nm, .int .i64 x.p.k, .int .u64 x.p.x.s, .int .u64 x.p.x.mi, .int .u64 x.p.x.h, .int .u64 x.p.x.d, .int .u64 x.p.x.mo, .int .u64 x.p.x.w, .bool x.p.x.ad, .bool x.p.x.aw, .int .i64 x.p.z, .int .i64 x.p.e.s, .int .i64 x.p.e.p, .int .i64 x.p.e.c, .slice a' x.p.n c', .int .i64 x.y.cap, .int .i64 x.y.pri, .int .i64 x.y.spl, .int .i64 x.y.ddl, .int .i64 x.y.mis, .int .i64 x.y.keep, .int .i64 x.y.t, .int .i64 x.y.tau, .int .i64 x.y.f, .int .i64 x.y.o, .int .i64 x.y.r, .int .i64 x.y.m, .int .i64 x.y.b, .int .i64 x.y.c, .int .i64 x.y.j] : List Value) rfl rfl HRN.out HPJ.out hml1 hml2 hml3 ?_; intro v' w5 hown' hgrow _; have HP := Lib.hid (HI4.out.push (x := x) (l := l) (a' := a') (c' := c') (by rw [HLN.out]; exact HXL.out) HO4.out (by rw [HLN.out]; exact hown') hgrow); clear hown' hgrow))
      refine ⟨⟨k + 1, by omega, by go_num, _, by simp [HLN.out], HP.out⟩, ?_⟩
      simp [intJ]; omega
    · obtain rfl : cn = k := by omega
      obtain ⟨ad, cap, he, hs, _⟩ := hI.own.shape
      rw [hlen] at he
      subst he
      have HC := Lib.hid (HI.out.copy (by rw [HLN.out, HN.out]))
      have hx2 := hI.bx
      have hz2' := hI.bz
      have p0 : wr.cell? ⟨w.heap.size, 0, none⟩ = some (.int .i64 cg.cap) := hx2.cell 0
      have p1 : wr.cell? ⟨w.heap.size, 1, none⟩ = some (.int .i64 cg.q) := hx2.cell 1
      have p2 : wr.cell? ⟨w.heap.size, 2, none⟩ = some (.int .i64 cg.ar) := hx2.cell 2
      have p3 : wr.cell? ⟨w.heap.size, 3, none⟩ = some (.int .i64 cg.ag) := hx2.cell 3
      have p4 : wr.cell? ⟨w.heap.size, 4, none⟩ = some (.int .u64 cg.sd) := hx2.cell 4
      have p5 : wr.cell? ⟨w.heap.size, 5, none⟩ = some (.int .i64 cg.t) := hx2.cell 5
      have p6 : wr.cell? ⟨w.heap.size, 6, none⟩ = some (.int .i64 cg.tau) := hx2.cell 6
      have p7 : wr.cell? ⟨w.heap.size, 7, none⟩ = some (.slice ca cn cc) := hx2.cell 7
      have q0 : wr.cell? ⟨w.heap.size + 1, 0, none⟩ = some (.int .i64 0) := hz2'.cell 0
      have f0 : wr.frozen? ⟨w.heap.size + 1, 0, none⟩ = false := hz2'.frozen 0
      have q1 : wr.cell? ⟨w.heap.size + 1, 1, none⟩ = some (.int .i64 0) := hz2'.cell 1
      have f1 : wr.frozen? ⟨w.heap.size + 1, 1, none⟩ = false := hz2'.frozen 1
      have q2 : wr.cell? ⟨w.heap.size + 1, 2, none⟩ = some (.int .i64 0) := hz2'.cell 2
      have f2 : wr.frozen? ⟨w.heap.size + 1, 2, none⟩ = false := hz2'.frozen 2
      have q3 : wr.cell? ⟨w.heap.size + 1, 3, none⟩ = some (.int .i64 0) := hz2'.cell 3
      have f3 : wr.frozen? ⟨w.heap.size + 1, 3, none⟩ = false := hz2'.frozen 3
      have q4 : wr.cell? ⟨w.heap.size + 1, 4, none⟩ = some (.int .u64 0) := hz2'.cell 4
      have f4 : wr.frozen? ⟨w.heap.size + 1, 4, none⟩ = false := hz2'.frozen 4
      have q5 : wr.cell? ⟨w.heap.size + 1, 5, none⟩ = some (.int .i64 0) := hz2'.cell 5
      have f5 : wr.frozen? ⟨w.heap.size + 1, 5, none⟩ = false := hz2'.frozen 5
      have q6 : wr.cell? ⟨w.heap.size + 1, 6, none⟩ = some (.int .i64 0) := hz2'.cell 6
      have f6 : wr.frozen? ⟨w.heap.size + 1, 6, none⟩ = false := hz2'.frozen 6
      have q7 : wr.cell? ⟨w.heap.size + 1, 7, none⟩ = some (.slice none 0 0) := hz2'.cell 7
      have f7 : wr.frozen? ⟨w.heap.size + 1, 7, none⟩ = false := hz2'.frozen 7
      have HZ := Lib.hid hz2'
      have HB := Lib.hid hI.below
      clear hI hlen hx2 hz2' hs hge hk HLN
      go_wp2_with fail
      have HZ3 := blk8 HZ.out rfl (.int .i64 cg.cap) (.int .i64 cg.q) (.int .i64 cg.ar) (.int .i64 cg.ag) (.int .u64 cg.sd) (.int .i64 cg.t) (.int .i64 cg.tau) (.slice ad cn cap)
      refine bodyPost_ret (results_cell_row rfl _ _ (w.heap.size + 1) _ _ (0, 0) _ rfl HZ3 Tryz.underlying29 rfl (by kernel_rfl)) rfl ?_
      have hl : w.heap.size + 1 < w.heap.size + 2 := by omega
      have hf := (((((((HC.out.set hl 0 (.int .i64 cg.cap)).set hl 1 (.int .i64 cg.q)).set hl 2 (.int .i64 cg.ar)).set hl 3 (.int .i64 cg.ag)).set hl 4 (.int .u64 cg.sd)).set hl 5 (.int .i64 cg.t)).set hl 6 (.int .i64 cg.tau)).set hl 7 (.slice ad cn cap)
      refine ⟨ad, cap, L', rfl, ⟨hf.len, fun h0 => ?_⟩, ?_⟩
      · obtain ⟨g, g1, g2, g3, g4⟩ := hf.at_ h0
        exact ⟨g, g1, by omega, g3, fun i x l hx => by
          obtain ⟨a', c', g5, g6⟩ := g4 i x l hx
          exact ⟨a', c', g5, g6.mono (by omega)⟩⟩
      · repeat refine Below.setCell ?_ (by exact Nat.le_succ _) _
        exact HB.out

/-- Two configurations in their boxes. -/
structure TwI (w : World) (c d : Cf) (L M : JL) (W : World) : Prop where
  bx : Blk W w.heap.size 29 (cfV c)
  bz : Blk W (w.heap.size + 1) 29 (cfV d)
  l : EqA W c.a c.n L
  m : EqA W d.a d.n M
  below : Below w.heap.size w W
theorem TwI.next {w : World} {c d : Cf} {L M : JL} {X Y : World} (h : TwI w c d L M X) (hb : Below X.heap.size X Y) : TwI w c d L M Y :=
  ⟨h.bx.below hb h.bx.lt, h.bz.below hb h.bz.lt, h.l.below hb, h.m.below hb, h.below.trans (hb.mono h.below.size)⟩
theorem EqA.at30 {w : World} {a : Option Addr} {n : Nat} {L : JL} (h : EqA w a n L) {k : Nat} (hk : k < n) : ∃ x l, L[k]? = some (x, l) ∧ (∃ b off, a = some ⟨b, off, none⟩ ∧ JbAt w b (off + k * 30) x) ∧ PIn w x.p l ∧ x.p.n ≤ 200 := by
  have hkl : k < L.length := by rw [h.n]; exact hk
  obtain ⟨b, off, e, hcl, hpi⟩ := h.at_ k hkl
  exact ⟨L[k].1, L[k].2, List.getElem?_eq_getElem hkl, ⟨b, off, e, hcl⟩, hpi, h.p9 k hkl⟩
set_option maxRecDepth 8000 in
set_option maxHeartbeats 8000000 in
theorem rcequal_ok (c d : Cf) (L M : JL) (w : World) (h1 : EqA w c.a c.n L) (h2 : EqA w d.a d.n M) (hn9 : c.n ≤ 200) (hn92 : d.n ≤ 200) : Calls Tryz.prog 19 #[.agg (cfV c), .agg (cfV d)] w fun e w' => e = .returned (.bool (cfEq c d L M)) ∧ Below w.heap.size w w' := by
  obtain ⟨W1, hW1⟩ : ∃ W1, W1 = (w.alloc (.cells (cfV c) 29)).alloc (.cells (cfV d) 29) := ⟨_, rfl⟩
  have hB : Below w.heap.size w W1 := by rw [hW1]; exact ((Below.refl _ w).alloc (Nat.le_refl _) _).alloc (by simp) _
  have HI := Lib.hid (show TwI w c d L M W1 from ⟨by rw [hW1]; exact (Blk.new w _ _).alloc _, by rw [hW1]; exact Blk.newAt (by simp), h1.below hB, h2.below hB, hB⟩)
  have eg := fun w => gl_neq c.g d.g w
  have hg : Tryz.prog.eqGuardType Tryz.prog.depth 26 = false := by kernel_rfl
  have hg2 : Tryz.prog.eqGuardType Tryz.prog.depth 58 = false := by kernel_rfl
  have HV : Hid (cfEq c d L M = (glEq c.g d.g && jsEq L M)) := Lib.hid rfl
  have HJN := Lib.hid (fun (h : L.length ≠ M.length) => jsEq_len h)
  have HJX := Lib.hid (fun k (hk : k < L.length) (h : pairB L M k = false) => jsEq_no hk h)
  have HJY := Lib.hid (fun (h : L.length = M.length) (hk : ∀ k, k < L.length → pairB L M k = true) => jsEq_yes h hk)
  have HLN := Lib.hid h1.n
  have HMN := Lib.hid h2.n
  generalize cfEq c d L M = R at *
  generalize jsEq L M = b2 at *
  generalize glEq c.g d.g = b1 at *
  obtain ⟨cg, ca, cn, cc⟩ := c
  obtain ⟨dg, da, dn, dc⟩ := d
  simp only at *
  rw [cfV_eq, cfV_eq] at hW1 ⊢
  clear hB h1 h2
  have p0 : W1.cell? ⟨w.heap.size, 0, none⟩ = some (.int .i64 cg.cap) := HI.out.bx.cell 0
  have p1 : W1.cell? ⟨w.heap.size, 1, none⟩ = some (.int .i64 cg.q) := HI.out.bx.cell 1
  have p2 : W1.cell? ⟨w.heap.size, 2, none⟩ = some (.int .i64 cg.ar) := HI.out.bx.cell 2
  have p3 : W1.cell? ⟨w.heap.size, 3, none⟩ = some (.int .i64 cg.ag) := HI.out.bx.cell 3
  have p4 : W1.cell? ⟨w.heap.size, 4, none⟩ = some (.int .u64 cg.sd) := HI.out.bx.cell 4
  have p5 : W1.cell? ⟨w.heap.size, 5, none⟩ = some (.int .i64 cg.t) := HI.out.bx.cell 5
  have p6 : W1.cell? ⟨w.heap.size, 6, none⟩ = some (.int .i64 cg.tau) := HI.out.bx.cell 6
  have p7 : W1.cell? ⟨w.heap.size, 7, none⟩ = some (.slice ca cn cc) := HI.out.bx.cell 7
  have q0 : W1.cell? ⟨(w.heap.size + 1), 0, none⟩ = some (.int .i64 dg.cap) := HI.out.bz.cell 0
  have q1 : W1.cell? ⟨(w.heap.size + 1), 1, none⟩ = some (.int .i64 dg.q) := HI.out.bz.cell 1
  have q2 : W1.cell? ⟨(w.heap.size + 1), 2, none⟩ = some (.int .i64 dg.ar) := HI.out.bz.cell 2
  have q3 : W1.cell? ⟨(w.heap.size + 1), 3, none⟩ = some (.int .i64 dg.ag) := HI.out.bz.cell 3
  have q4 : W1.cell? ⟨(w.heap.size + 1), 4, none⟩ = some (.int .u64 dg.sd) := HI.out.bz.cell 4
  have q5 : W1.cell? ⟨(w.heap.size + 1), 5, none⟩ = some (.int .i64 dg.t) := HI.out.bz.cell 5
  have q6 : W1.cell? ⟨(w.heap.size + 1), 6, none⟩ = some (.int .i64 dg.tau) := HI.out.bz.cell 6
  have q7 : W1.cell? ⟨(w.heap.size + 1), 7, none⟩ = some (.slice da dn dc) := HI.out.bz.cell 7
  cases b1
  · have HR : Hid (R = false) := Lib.hid (by rw [HV.out]; rfl)
    clear HV HJN HJX HJY
    go_enter Tryz.func19, Tryz.ntmps19
    go_upto_region 1 with fail
    rw [← hW1]
    clear hW1
    go_wp2_with fail
    go_ret
    exact ⟨ret_bool HR.out.symm, HI.out.below⟩
  · have HR : Hid (R = b2) := Lib.hid (by rw [HV.out]; rfl)
    clear HV
    by_cases hnn : cn = dn
    · subst hnn
      have q1 : (cn != cn) = false := by simp
      have q2 : ((cn : Int) != cn) = false := by simp
      clear HJN
      go_enter Tryz.func19, Tryz.ntmps19
      go_upto_region 1 with fail
      rw [← hW1]
      clear hW1
      go_wp2_with fail
      go_loopw [5] (fun s5 wr => ∃ k : Nat, k ≤ cn ∧ s5 = .int .i64 k ∧ TwI w ⟨cg, ca, cn, cc⟩ ⟨dg, da, cn, dc⟩ L M wr ∧ ∀ i, i < k → pairB L M i = true) (fun s5 _ => cn - intJ s5)
      case atStart => exact ⟨0, Nat.zero_le _, rfl, HI.out, fun i h => absurd h (Nat.not_lt_zero _)⟩
      case round =>
        clear HI p0 p1 p2 p3 p4 p5 p6 p7 q0 q1 q2 q3 q4 q5 q6 q7 eg
        obtain ⟨k, hk, rfl, hI, hok⟩ := hrel
        have HI := Lib.hid hI
        have HOK := Lib.hid hok
        have p7 : wr.cell? ⟨w.heap.size, 7, none⟩ = some (.slice ca cn cc) := hI.bx.cell 7
        have q7 : wr.cell? ⟨w.heap.size + 1, 7, none⟩ = some (.slice da cn dc) := hI.bz.cell 7
        clear hok
        rcases Nat.lt_or_ge k cn with hlt | hge
        · obtain ⟨x, l, hxl, ⟨b, off, rfl, hax⟩, hpx, hx9⟩ := hI.l.at30 hlt
          obtain ⟨y, m, hym, ⟨b2q, off2, rfl, hay⟩, hpy, hy9⟩ := hI.m.at30 hlt
          have hkl : k < L.length := by rw [HLN.out]; exact hlt
          have HP := Lib.hid (pairB_at hxl hym)
          have HX2 := Lib.hid (HJX.out k hkl)
          have hbx : b < wr.heap.size := World.block_lt_of_cell? wr _ hax.name
          have hby : b2q < wr.heap.size := World.block_lt_of_cell? wr _ hay.name
          have LX := Lib.hid (hax.polR hbx)
          have LY := Lib.hid (hay.polR hby)
          have LP := Lib.hid (hax.planR hbx)
          have LQ := Lib.hid (hay.planR hby)
          have CE := Lib.hid (fun d os => by
            have h := req_ok x.p y.p l m (Sort.grow (redrawn wr d) os) (hpx.below (below_regrown wr d os)) (hpy.below (below_regrown wr d os)) hx9 hy9
            exact Calls.regrown_of h)
          have ex := fun w => po_neq x.y y.y w
          rw [show (#[.int .i64 x.y.cap, .int .i64 x.y.pri, .int .i64 x.y.spl, .int .i64 x.y.ddl, .int .i64 x.y.mis, .int .i64 x.y.keep, .int .i64 x.y.t, .int .i64 x.y.tau, .int .i64 x.y.f, .int .i64 x.y.o, .int .i64 x.y.r, .int .i64 x.y.m, .int .i64 x.y.b, .int .i64 x.y.c, .int .i64 x.y.j] : Array Value) = poV x.y from rfl, show (#[.int .i64 y.y.cap, .int .i64 y.y.pri, .int .i64 y.y.spl, .int .i64 y.y.ddl, .int .i64 y.y.mis, .int .i64 y.y.keep, .int .i64 y.y.t, .int .i64 y.y.tau, .int .i64 y.y.f, .int .i64 y.y.o, .int .i64 y.y.r, .int .i64 y.y.m, .int .i64 y.y.b, .int .i64 y.y.c, .int .i64 y.y.j] : Array Value) = poV y.y from rfl] at ex
          have r7 := cell_regrown p7
          have z7 := cell_regrown q7
          have rn1 := cell_regrown hax.name
          have rn2 := cell_regrown hay.name
          have HJ : Hid (jbEq (x, l) (y, m) = (sEq x.nm y.nm && (poEq x.y y.y && eqP x.p y.p l m))) := Lib.hid rfl
          generalize jbEq (x, l) (y, m) = bj at *
          generalize eqP x.p y.p l m = b3 at *
          generalize poEq x.y y.y = bb2 at *
          obtain ⟨bb1, hb1⟩ : ∃ b, sEq x.nm y.nm = b := ⟨_, rfl⟩
          rw [hb1] at HJ
          unfold sEq at hb1
          clear hI hxl hym hpx hpy hx9 hy9 hax hay hkl HJX HJY
          cases bb1
          · have HE : Hid (bj = false) := Lib.hid (by rw [HJ.out]; rfl)
            have HR3 : Hid (R = false) := Lib.hid (by rw [HR.out]; exact HX2.out (by rw [HP.out]; exact HE.out))
            have hb1' : (x.nm.toList != y.nm.toList) = true := by rw [bne, hb1]; rfl
            clear HJ HX2 HP HOK
            go_upto_region 6 with fail
            clear p7 q7
            refine wp_region_quiet_below (by kernel_rfl) (by kernel_rfl) ?_
            repeat (go_big_quiet_step (fail))
            refine wpQuiet_nil ?_
            intro _ hw'
            obtain ⟨⟨dq, osq⟩, hw''⟩ := hw'
            subst hw''
            have HI5 := Lib.hid (HI.out.next (below_regrown wr dq osq))
            clear r7 z7 rn1 rn2
            generalize Sort.grow (redrawn wr dq) osq = w5 at *
            go_wp2_with fail
            go_ret
            exact ⟨ret_bool HR3.out.symm, HI5.out.below⟩
          · have hb1' : (x.nm.toList != y.nm.toList) = false := by rw [bne, hb1]; rfl
            cases bb2
            · have HE : Hid (bj = false) := Lib.hid (by rw [HJ.out]; rfl)
              have HR3 : Hid (R = false) := Lib.hid (by rw [HR.out]; exact HX2.out (by rw [HP.out]; exact HE.out))
              clear HJ HX2 HP HOK
              go_upto_region 6 with fail
              clear p7 q7
              refine wp_region_quiet_below (by kernel_rfl) (by kernel_rfl) ?_
              repeat (go_big_quiet_step (fail))
              refine wpQuiet_load_by (by rfl) 58 _ rfl b (off + k * 30 + 15) (.agg (poV x.y)) rfl LX.out ?_
              conv => arg 6; simp only [Act.put, List.setIfInBounds_toArray, List.set_cons_succ, List.set_cons_zero]
              repeat (go_big_quiet_step (fail))
              refine wpQuiet_load_by (by rfl) 58 _ rfl b2q (off2 + k * 30 + 15) (.agg (poV y.y)) rfl LY.out ?_
              conv => arg 6; simp only [Act.put, List.setIfInBounds_toArray, List.set_cons_succ, List.set_cons_zero]
              repeat (go_big_quiet_step (fail))
              refine wpQuiet_nil ?_
              intro _ hw'
              obtain ⟨⟨dq, osq⟩, hw''⟩ := hw'
              subst hw''
              have HI5 := Lib.hid (HI.out.next (below_regrown wr dq osq))
              clear r7 z7 rn1 rn2
              generalize Sort.grow (redrawn wr dq) osq = w5 at *
              go_wp2_with fail
              go_ret
              exact ⟨ret_bool HR3.out.symm, HI5.out.below⟩
            · have HE : Hid (bj = b3) := Lib.hid (by rw [HJ.out]; rfl)
              cases b3
              · have HR3 : Hid (R = false) := Lib.hid (by rw [HR.out]; exact HX2.out (by rw [HP.out]; exact HE.out))
                clear HJ HX2 HP HOK
                go_upto_region 6 with fail
                clear p7 q7
                refine wp_region_quiet_below (by kernel_rfl) (by kernel_rfl) ?_
                repeat (go_big_quiet_step (fail))
                refine wpQuiet_load_by (by rfl) 58 _ rfl b (off + k * 30 + 15) (.agg (poV x.y)) rfl LX.out ?_
                conv => arg 6; simp only [Act.put, List.setIfInBounds_toArray, List.set_cons_succ, List.set_cons_zero]
                repeat (go_big_quiet_step (fail))
                refine wpQuiet_load_by (by rfl) 58 _ rfl b2q (off2 + k * 30 + 15) (.agg (poV y.y)) rfl LY.out ?_
                conv => arg 6; simp only [Act.put, List.setIfInBounds_toArray, List.set_cons_succ, List.set_cons_zero]
                repeat (go_big_quiet_step (fail))
                refine wpQuiet_load_by (by rfl) 52 _ rfl b (off + k * 30 + 1) (.agg (plV x.p)) rfl LP.out ?_
                conv => arg 6; simp only [Act.put, List.setIfInBounds_toArray, List.set_cons_succ, List.set_cons_zero]
                repeat (go_big_quiet_step (fail))
                refine wpQuiet_load_by (by rfl) 52 _ rfl b2q (off2 + k * 30 + 1) (.agg (plV y.p)) rfl LQ.out ?_
                conv => arg 6; simp only [Act.put, List.setIfInBounds_toArray, List.set_cons_succ, List.set_cons_zero]
                repeat (go_big_quiet_step (fail))
                go_big_quiet_step ((go_at_call 36; exact CE.out _ _))
                repeat (go_big_quiet_step (fail))
                refine wpQuiet_nil ?_
                intro _ hw'
                obtain ⟨⟨dq, osq⟩, hw''⟩ := hw'
                subst hw''
                have HI5 := Lib.hid (HI.out.next (below_regrown wr dq osq))
                clear r7 z7 rn1 rn2
                generalize Sort.grow (redrawn wr dq) osq = w5 at *
                go_wp2_with fail
                go_ret
                exact ⟨ret_bool HR3.out.symm, HI5.out.below⟩
              · have HP := Lib.hid (HP.out.trans HE.out)
                clear HJ HX2
                go_upto_region 6 with fail
                clear p7 q7
                refine wp_region_quiet_below (by kernel_rfl) (by kernel_rfl) ?_
                repeat (go_big_quiet_step (fail))
                refine wpQuiet_load_by (by rfl) 58 _ rfl b (off + k * 30 + 15) (.agg (poV x.y)) rfl LX.out ?_
                conv => arg 6; simp only [Act.put, List.setIfInBounds_toArray, List.set_cons_succ, List.set_cons_zero]
                repeat (go_big_quiet_step (fail))
                refine wpQuiet_load_by (by rfl) 58 _ rfl b2q (off2 + k * 30 + 15) (.agg (poV y.y)) rfl LY.out ?_
                conv => arg 6; simp only [Act.put, List.setIfInBounds_toArray, List.set_cons_succ, List.set_cons_zero]
                repeat (go_big_quiet_step (fail))
                refine wpQuiet_load_by (by rfl) 52 _ rfl b (off + k * 30 + 1) (.agg (plV x.p)) rfl LP.out ?_
                conv => arg 6; simp only [Act.put, List.setIfInBounds_toArray, List.set_cons_succ, List.set_cons_zero]
                repeat (go_big_quiet_step (fail))
                refine wpQuiet_load_by (by rfl) 52 _ rfl b2q (off2 + k * 30 + 1) (.agg (plV y.p)) rfl LQ.out ?_
                conv => arg 6; simp only [Act.put, List.setIfInBounds_toArray, List.set_cons_succ, List.set_cons_zero]
                repeat (go_big_quiet_step (fail))
                go_big_quiet_step ((go_at_call 36; exact CE.out _ _))
                repeat (go_big_quiet_step (fail))
                refine wpQuiet_nil ?_
                intro _ hw'
                obtain ⟨⟨dq, osq⟩, hw''⟩ := hw'
                subst hw''
                have HI5 := Lib.hid (HI.out.next (below_regrown wr dq osq))
                clear r7 z7 rn1 rn2
                generalize Sort.grow (redrawn wr dq) osq = w5 at *
                go_wp2_with fail
                refine ⟨⟨k + 1, by omega, by go_num, HI5.out, fun i h => ?_⟩, ?_⟩
                · rcases Nat.lt_or_ge i k with h4 | h4
                  · exact HOK.out i h4
                  · obtain rfl : i = k := by omega
                    exact HP.out
                · simp [intJ]; omega
        · obtain rfl : cn = k := by omega
          have HE := Lib.hid (HR.out.trans (HJY.out (by rw [HLN.out, HMN.out]) (fun i hi => HOK.out i (by rw [HLN.out] at hi; exact hi))))
          go_wp2_with fail
          go_ret
          exact ⟨ret_bool HE.out.symm, HI.out.below⟩
    · have q1' : (cn == dn) = false := by simpa using hnn
      have q2' : ((cn : Int) == dn) = false := by rw [beq_eq_false_iff_ne]; omega
      have q3' : (cn != dn) = true := by rw [bne, q1']; rfl
      have q4' : ((cn : Int) != dn) = true := by rw [bne, q2']; rfl
      have HE := Lib.hid (HR.out.trans (HJN.out (by rw [HLN.out, HMN.out]; exact hnn)))
      clear hnn HR
      go_enter Tryz.func19, Tryz.ntmps19
      go_upto_region 1 with fail
      rw [← hW1]
      clear hW1
      go_wp2_with fail
      go_ret
      exact ⟨ret_bool HE.out.symm, HI.out.below⟩
end Go.Proofs.YtihadbkjfocdoaaGreatDoor.BW
