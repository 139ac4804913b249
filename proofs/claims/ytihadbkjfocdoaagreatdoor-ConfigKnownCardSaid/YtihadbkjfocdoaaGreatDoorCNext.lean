/- Contracts of config.Caps and of the reference's Caps. Contracts of config.Due and of the reference's Due. Contracts of config.Next and of the reference's Next. -/
import Derived.Test.YtihadbkjfocdoaaGreatDoorCCheck
import Derived.Test.YtihadbkjfocdoaaGreatDoorPSame
namespace Go.Proofs.YtihadbkjfocdoaaGreatDoor.BW
open Go.RowKit BM Go.Shelf MC RK
open BK hiding ret_bool ret_i64

/-- A store whose outcome is known, at the operation. -/
theorem wpList_store_by {P : Program} {ops : Array Oper} {rest : List Oper} {op : Oper} {a : Act} {w : World} {Q : Exit → Act → World → Prop} (hgd : op.guard = none) (ty : TypeId) (x y : Operand) (ho : op.op = .store ty x y)
    (b o : Nat) (v : Value) (w' : World) (hx : a.eval x = .pointer (some ⟨b, o, none⟩)) (hy : a.eval y = v) (hl : (storeVar ty ⟨b, o, none⟩ v).run P w = .ok () w')
    (h : wpList P ops Q rest (a.put op.dst undef) w') : wpList P ops Q (op :: rest) a w := by
  refine wpList_plain hgd fun K hK => ?_
  unfold Oper.wp execOp
  simp only [ho, hx, hy, Instr.storeAt, Instr.sureAddr, Sem.run_bind, Sem.run_pure, Result.andThen_ok, hl]
  exact hK _ _ h
def zJ : Array Value := #[.string ByteArray.empty, .int .i64 0, .int .u64 0, .int .u64 0, .int .u64 0, .int .u64 0, .int .u64 0, .int .u64 0, .bool false, .bool false, .int .i64 0, .int .i64 0, .int .i64 0, .int .i64 0, .slice none 0 0, .int .i64 0, .int .i64 0, .int .i64 0, .int .i64 0, .int .i64 0, .int .i64 0, .int .i64 0, .int .i64 0, .int .i64 0, .int .i64 0, .int .i64 0, .int .i64 0, .int .i64 0, .int .i64 0, .int .i64 0]
theorem jb_store (w : World) (j : Jb) : (storeVar 60 ⟨w.heap.size, 0, none⟩ (.agg (jbV j))).run Tryz.prog (w.alloc (.cells zJ 60)) = .ok () (w.alloc (.cells (jbV j) 60)) :=
  Go.run_storeVar_new w 60 zJ (jbV j) jb_info rfl (by simp [jbV, Value.oneCell'])
/-- A box of the caller's, and a row of numbers that the call owns. -/
structure BoxJ (w : World) (T : TypeId) (cs : Array Value) (v : Value) (ys : List Int) (W : World) : Prop where
  box : Blk W w.heap.size T cs
  own : OwnsJ (w.heap.size + 1) v ys W
  below : Below w.heap.size w W
  size : w.heap.size + 1 ≤ W.heap.size
theorem BoxJ.next {w : World} {T : TypeId} {cs : Array Value} {v : Value} {ys : List Int} {X Y : World} (h : BoxJ w T cs v ys X) (hb : Below X.heap.size X Y) : BoxJ w T cs v ys Y :=
  ⟨h.box.below hb h.box.lt, h.own.below hb, h.below.trans (hb.mono h.below.size), Nat.le_trans h.size hb.size⟩
theorem BoxJ.push {w : World} {T : TypeId} {cs : Array Value} {v v' : Value} {ys : List Int} {d : Int} {X Y : World} {tmp : Obj} (h : BoxJ w T cs v ys X)
    (hown' : Y.ownsRow (w.heap.size + 1) 3 1 v' (ys.length + 1) (ys.map tcell ++ [.int .i64 d])) (hgrow : (X.alloc tmp).grownBy Y v.ownBlock) : BoxJ w T cs v' (ys ++ [d]) Y := by
  have hrow : X.ownsRow (w.heap.size + 1) 3 1 v ys.length (ys.map tcell) := h.own
  have hs : X.heap.size + 1 ≤ Y.heap.size := by have := hgrow.size; simpa using this
  refine ⟨blk_app h.box (by omega) hrow hgrow, by unfold OwnsJ; simpa [tcell] using hown', ?_, by have := h.size; omega⟩
  refine h.below.trans (((Below.refl w.heap.size X).alloc (by have := h.below.size; omega) tmp).grown hgrow (by simp; have := h.below.size; omega) fun j ej => ?_)
  rcases Nat.lt_or_ge j (w.heap.size + 1) with h' | h'
  · exact absurd ej.symm (own_ge hrow h')
  · omega
theorem BoxJ.new (w : World) (T : TypeId) (cs : Array Value) : BoxJ w T cs (.slice none 0 0) [] (w.alloc (.cells cs T)) := ⟨Blk.new w _ _, ⟨rfl, .inl ⟨rfl, rfl⟩⟩, (Below.refl _ w).alloc (Nat.le_refl _) _, by simp⟩
theorem OwnsJ.mono {B C : Nat} {v : Value} {ys : List Int} {w : World} (h : OwnsJ C v ys w) (hB : B ≤ C) : OwnsJ B v ys w :=
  ⟨h.1, h.2.imp id fun ⟨g, cap, cur, h1, h2, h3⟩ => ⟨g, cap, cur, h1, Nat.le_trans hB h2, h3⟩⟩
theorem OwnsJ.nil (B : Nat) (w : World) : OwnsJ B (.slice none 0 0) [] w := ⟨rfl, .inl ⟨rfl, rfl⟩⟩
def capsL (L : JL) : List Int := L.map fun x => x.1.y.cap
theorem capsL_take {L : JL} {k : Nat} {j : Jb} {l : List (Int × Int)} (h : L[k]? = some (j, l)) : (capsL L).take (k + 1) = (capsL L).take k ++ [j.y.cap] := by
  obtain ⟨hk, hx⟩ := List.getElem?_eq_some_iff.1 h
  unfold capsL
  rw [List.take_succ_eq_append_getElem (by simpa using hk), List.getElem_map, hx]
def cpC (g : Gl) (E : Int) : Int := if E = 0 then g.cap else 0
def cpL (L : JL) (E : Int) : List Int := if E = 0 then capsL L else []
theorem ret_ivi {a b : Int} {u v : Value} {c d : Int} (h : a = b) (h1 : u = v) (h' : c = d) : Ending.returned (.tuple #[.int .i64 a, u, .int .i64 c]) = .returned (.tuple #[.int .i64 b, v, .int .i64 d]) := by rw [h, h1, h']
theorem cell_one_new2 (w : World) (H : Nat) (v : Value) (T : TypeId) (h : w.heap.size = H) : ∀ j u, [v][j]? = some u → (w.alloc (.cells #[v] T)).cell? ((⟨H, 0, none⟩ : Addr).add j) = some u := by subst h; exact cell_one_new w v T
set_option maxRecDepth 8000 in
set_option maxHeartbeats 8000000 in
theorem ccaps_ok (c : Cf) (L : JL) (w : World) (hA : CArg w c L) : Calls Tryz.prog 13 #[.agg (cfV c)] w fun e w' => ∃ v, e = .returned (.tuple #[.int .i64 (cpC c.g (cfE c.g L)), v, .int .i64 (cfE c.g L)]) ∧ OwnsJ w.heap.size v (cpL L (cfE c.g L)) w' ∧ Below w.heap.size w w' := by
  obtain ⟨i0, hi0, hz0, hz1, hz2⟩ := info_parts info_int
  have HA := Lib.hid hA
  have HN := Lib.hid hA.in_.n
  have H9 := Lib.hid hA.n9
  have HBJ := Lib.hid (BoxJ.new w 29 (cfV c))
  have hB := (Below.refl _ w).alloc (Nat.le_refl _) (.cells (cfV c) 29)
  have C0 := Lib.hid (ccheck_ok c L _ (hA.below hB))
  have HC : Hid (cpC c.g (cfE c.g L) = if cfE c.g L = 0 then c.g.cap else 0) := Lib.hid rfl
  have HL : Hid (cpL L (cfE c.g L) = if cfE c.g L = 0 then capsL L else []) := Lib.hid rfl
  have HCL : Hid ((capsL L).length = c.n) := Lib.hid (by unfold capsL; rw [List.length_map]; exact hA.in_.n)
  generalize cpC c.g (cfE c.g L) = RC at *
  generalize cpL L (cfE c.g L) = RL at *
  generalize cfE c.g L = E at *
  rw [cfV_eq] at HBJ C0 hB ⊢
  clear hA hB
  obtain ⟨cg, ca, cn, cc⟩ := c
  simp only at *
  by_cases hE : E = 0
  · subst hE
    have HC2 : Hid (RC = cg.cap) := Lib.hid (by rw [HC.out, if_pos rfl])
    have HL2 : Hid (RL = capsL L) := Lib.hid (by rw [HL.out, if_pos rfl])
    have hn9 : cn ≤ 200 := H9.out
    clear HC HL
    go_enter Tryz.func13, Tryz.ntmps13
    go_wp2_with fail
    refine (C0.out).mono ?_
    rintro e_ w2 ⟨rfl, hb⟩
    have HJ := Lib.hid (BoxJ.next (X := w.alloc _) HBJ.out hb)
    have k7 : w2.cell? ⟨w.heap.size, 7, none⟩ = some (.slice ca cn cc) := HJ.out.box.cell 7
    clear hb HBJ C0
    go_wp2_with fail
    go_loopw [6, 17] (fun so si wr => ∃ k : Nat, k ≤ cn ∧ si = .int .i64 k ∧ BoxJ w 29 #[.int .i64 cg.cap, .int .i64 cg.q, .int .i64 cg.ar, .int .i64 cg.ag, .int .u64 cg.sd, .int .i64 cg.t, .int .i64 cg.tau, .slice ca cn cc] so ((capsL L).take k) wr) (fun _ si _ => cn - intJ si)
    case atStart => exact ⟨0, Nat.zero_le _, rfl, by rw [List.take_zero]; exact HJ.out⟩
    case round =>
      clear HJ k7
      obtain ⟨k, hk, rfl, hI⟩ := hrel
      have HI := Lib.hid hI
      have hlen : ((capsL L).take k).length = k := by rw [List.length_take, HCL.out]; omega
      have k7 : wr.cell? ⟨w.heap.size, 7, none⟩ = some (.slice ca cn cc) := hI.box.cell 7
      rcases Nat.lt_or_ge k cn with hlt | hge
      · obtain ⟨⟨j, l⟩, hjl⟩ : ∃ x, L[k]? = some x := ⟨_, List.getElem?_eq_getElem (by have := HN.out; omega)⟩
        have HTK := Lib.hid (capsL_take hjl)
        have hav := HA.out.below hI.below
        obtain ⟨b, off, rfl, hcl, -⟩ := hav.in_.at_ k (List.getElem?_eq_some_iff.1 hjl).1
        rw [(List.getElem?_eq_some_iff.1 hjl).2] at hcl
        have LJ := Lib.hid (jb_load hcl)
        have ST := Lib.hid (jb_store wr j)
        have c15 : wr.cell? ⟨b, off + k * 30 + 15, none⟩ = some (.int .i64 j.y.cap) := hcl 15 (by decide)
        have e15 : (jbV j)[15]? = some (.int .i64 j.y.cap) := rfl
        have HI2 := Lib.hid (HI.out.next ((Below.refl _ wr).alloc (Nat.le_refl _) (.cells (jbV j) 60)))
        have hrow0 : wr.ownsRow (w.heap.size + 1) 3 1 u6 ((capsL L).take k).length (((capsL L).take k).map tcell) := hI.own
        rw [hlen] at hrow0
        have hml1 : k + 1 ≤ maxLen := by unfold maxLen; omega
        have hml2 : (k + 1) * 8 ≤ 140737488355328 := by omega
        have HLN := Lib.hid hlen
        have hwsz := hI.size
        clear hrow0 hcl hav hI hjl hlen
        generalize j.y.cap = cap0 at *
        generalize (capsL L).take k = ys at *
        have HROW := Lib.hid (show (wr.alloc (.cells (jbV j) 60) : World).ownsRow (w.heap.size + 1) 3 1 _ ys.length (ys.map tcell) from HI2.out.own)
        rw [HLN.out] at HROW
        have hml3 : w.heap.size + 1 ≤ ((wr.alloc (.cells (jbV j) 60)).alloc (.cells #[.int .i64 cap0] 3) : World).heap.size := by simp; omega
        go_wp2_with (first | (refine wpList_load_by rfl 60 _ rfl b (off + k * 30) (.agg (jbV j)) rfl LJ.out ?_) | (refine wpList_store_by rfl 60 _ _ rfl wr.heap.size 0 (.agg (jbV j)) _ rfl rfl ST.out ?_) | (at_builtin; refine wpList_append_own _ rfl _ _ 31 rfl (w.heap.size + 1) 3 i0 (.int .i64 0) 1 8 Tryz.underlying31 hi0 hz0 hz1 hz2 rfl (by decide) _ _ _ rfl (own_alloc HROW.out _) ⟨wr.heap.size + 1, 0, none⟩ 1 1 [.int .i64 cap0] rfl rfl (cell_one_new2 _ _ _ _ (by simp)) (by simp [Value.oneCell']) hml1 hml2 hml3 ?_; intro v' w4 hown' hgrow _; have HP := Lib.hid (HI2.out.push (d := cap0) (by rw [HLN.out]; exact hown') hgrow); clear hown' hgrow))
        refine ⟨⟨k + 1, by omega, by go_num, by rw [HTK.out]; exact HP.out⟩, ?_⟩
        simp [intJ]; omega
      · obtain rfl : cn = k := by omega
        have HO : Hid (OwnsJ w.heap.size u6 RL wr) := Lib.hid (by
          have h := hI.own
          rw [List.take_of_length_le (by rw [HCL.out]; exact Nat.le_refl _), ← HL2.out] at h
          exact h.mono (Nat.le_succ _))
        have k0 : wr.cell? ⟨w.heap.size, 0, none⟩ = some (.int .i64 cg.cap) := hI.box.cell 0
        clear hI
        go_wp2_with fail
        go_ret3
        exact ⟨_, ret_ivi HC2.out.symm rfl rfl, HO.out, HI.out.below⟩
  · have h1 : (E == 0) = false := by rw [beq_eq_false_iff_ne]; exact hE
    have h2 : (E != 0) = true := by rw [bne, h1]; rfl
    have h3 : decide (E = 0) = false := decide_eq_false hE
    have HC2 : Hid (RC = 0) := Lib.hid (by rw [HC.out, if_neg hE])
    have HL2 : Hid (RL = []) := Lib.hid (by rw [HL.out, if_neg hE])
    clear HC HL hE
    go_enter Tryz.func13, Tryz.ntmps13
    go_wp2_with fail
    refine (C0.out).mono ?_
    rintro e_ w2 ⟨rfl, hb⟩
    have HJ := Lib.hid (BoxJ.next (X := w.alloc _) HBJ.out hb)
    clear hb HBJ C0
    go_wp2_with fail
    go_ret3
    exact ⟨_, ret_ivi HC2.out.symm rfl rfl, by rw [HL2.out]; exact OwnsJ.nil _ _, HJ.out.below⟩
end Go.Proofs.YtihadbkjfocdoaaGreatDoor.BW
namespace Go.Proofs.YtihadbkjfocdoaaGreatDoor.BW
open Go.RowKit BM Go.Shelf MC RK
open BK hiding ret_bool ret_i64

def plansOf (L : JL) : List (Pl × List (Int × Int)) := L.map fun x => (x.1.p, x.2)
noncomputable def cdE (g : Gl) (L : JL) (t : Int) : Int := if cfE g L = 0 then (if vT t then 0 else 14) else cfE g L
noncomputable def cdV (g : Gl) (L : JL) (t : Int) : List Int := if cdE g L t = 0 then dueA t (plansOf L) 0 else []
theorem plansOf_len (L : JL) : (plansOf L).length = L.length := by unfold plansOf; simp
theorem plansOf_get {L : JL} {k : Nat} (hk : k < (plansOf L).length) : (plansOf L)[k] = ((L[k]'(by rw [plansOf_len] at hk; exact hk)).1.p, (L[k]'(by rw [plansOf_len] at hk; exact hk)).2) := by simp [plansOf]
theorem plansOf_at {L : JL} {k : Nat} {j : Jb} {l : List (Int × Int)} (h : L[k]? = some (j, l)) : (plansOf L)[k]? = some (j.p, l) := by unfold plansOf; rw [List.getElem?_map, h]; rfl
theorem okJ_pl {L : JL} (h : allOk L) {k : Nat} {j : Jb} {l : List (Int × Int)} (hk : L[k]? = some (j, l)) : plE j.p l = 0 := by
  obtain ⟨hk, hx⟩ := List.getElem?_eq_some_iff.1 hk
  have := h k hk
  rw [hx] at this
  unfold okJ at this
  simp only [Bool.and_eq_true, decide_eq_true_eq] at this
  exact this.1
theorem due_cfg {g : Gl} {L : JL} (h : CfOk g L) (t : Int) : dueE (plansOf L) t = if vT t then 0 else 14 := by
  refine due_ok (by rw [plansOf_len]; have := h.many; omega) (fun k hk => ?_)
  have hk' : k < L.length := by rw [plansOf_len] at hk; exact hk
  rw [plansOf_get]
  exact okJ_pl h.all (k := k) (List.getElem?_eq_getElem hk')
theorem cd_due {g : Gl} {L : JL} (h : cfE g L = 0) (t : Int) : cdE g L t = dueE (plansOf L) t ∧ cdV g L t = dueV (plansOf L) t := by
  have h1 : cdE g L t = dueE (plansOf L) t := by unfold cdE; rw [if_pos h, due_cfg (cfE_zero.1 h)]
  exact ⟨h1, by unfold cdV dueV; rw [h1]⟩
theorem cd_bad {g : Gl} {L : JL} (h : cfE g L ≠ 0) (t : Int) : cdE g L t = cfE g L ∧ cdV g L t = [] := by
  have h1 : cdE g L t = cfE g L := by unfold cdE; rw [if_neg h]
  exact ⟨h1, by unfold cdV; rw [h1, if_neg h]⟩
/-- The cells of plans, one behind the other. -/
def cellsP (L : List (Pl × List (Int × Int))) : List Value := L.flatMap fun x => (plV x.1).toList
theorem cellsP_snoc (L : List (Pl × List (Int × Int))) (p : Pl) (l : List (Int × Int)) : cellsP (L ++ [(p, l)]) = cellsP L ++ (plV p).toList := by simp [cellsP]
theorem cellsP_get (L : List (Pl × List (Int × Int))) (k i : Nat) (hk : k < L.length) (hi : i < 14) : (cellsP L)[k * 14 + i]? = (plV L[k].1)[i]? := by
  induction L generalizing k with
  | nil => simp at hk
  | cons x L ih =>
    have h14 : (plV x.1).toList.length = 14 := rfl
    unfold cellsP
    rw [List.flatMap_cons]
    cases k with
    | zero =>
      rw [Nat.zero_mul, Nat.zero_add, List.getElem?_append_left (by rw [h14]; exact hi)]
      show (plV x.1).toList[i]? = (plV x.1)[i]?
      exact Array.getElem?_toList
    | succ k =>
      rw [List.getElem?_append_right (by rw [h14]; omega), h14, show (k + 1) * 14 + i - 14 = k * 14 + i by omega]
      exact ih k (by simpa using hk)
def OwnsP (B : Nat) (v : Value) (ys : List (Pl × List (Int × Int))) (w : World) : Prop := w.ownsRow B 52 14 v ys.length (cellsP ys)
theorem OwnsP.below {B : Nat} {v : Value} {ys : List (Pl × List (Int × Int))} {X Y : World} (h : OwnsP B v ys X) (hb : Below X.heap.size X Y) : OwnsP B v ys Y :=
  ⟨h.1, h.2.imp id fun ⟨g, cap, cur, h1, h2, h3, h4⟩ => ⟨g, cap, cur, h1, h2, (hb.block g (Array.getElem?_eq_some_iff.1 h3).1).trans h3, h4⟩⟩
theorem OwnsP.shape {B : Nat} {v : Value} {ys : List (Pl × List (Int × Int))} {w : World} (h : OwnsP B v ys w) : ∃ a cap, v = .slice a ys.length cap ∧ ∀ k (hk : k < ys.length), ∃ b off, a = some ⟨b, off, none⟩ ∧ ∀ i, i < 14 → w.cell? ⟨b, off + k * 14 + i, none⟩ = (plV ys[k].1)[i]? := by
  obtain ⟨hl, h⟩ := h
  rcases h with ⟨rfl, h0⟩ | ⟨g, cap, cur, rfl, hb, hg, hn, hc, hs, ht⟩
  · have : ys = [] := List.eq_nil_of_length_eq_zero h0
    subst this
    exact ⟨none, 0, rfl, fun k hk => by simp at hk⟩
  · refine ⟨_, cap, rfl, fun k hk => ⟨g, 0, rfl, fun i hi => ?_⟩⟩
    have h1 := cellsP_get ys k i hk hi
    have hlt : k * 14 + i < ys.length * 14 := by omega
    rw [← ht, List.getElem?_take, if_pos hlt] at h1
    have h2 : cur[k * 14 + i]? = (plV ys[k].1)[i]? := by rw [← h1]; exact Array.getElem?_toList.symm
    simp only [World.cell?, hg, Nat.zero_add, Option.isSome_none, Bool.false_eq_true, if_false, h2]
theorem info_p14 : (Tryz.prog.info? 52).map (fun i => (i.zero, i.size, i.bytes)) = some (some (.agg #[.int .i64 0, .int .u64 0, .int .u64 0, .int .u64 0, .int .u64 0, .int .u64 0, .int .u64 0, .bool false, .bool false, .int .i64 0, .int .i64 0, .int .i64 0, .int .i64 0, .slice none 0 0]), 14, 120) := by kernel_rfl
/-- A box of the caller's, and a row of plans that the call owns. -/
structure BoxP (w : World) (T : TypeId) (cs : Array Value) (v : Value) (ys : List (Pl × List (Int × Int))) (W : World) : Prop where
  box : Blk W w.heap.size T cs
  own : OwnsP (w.heap.size + 1) v ys W
  below : Below w.heap.size w W
  size : w.heap.size + 1 ≤ W.heap.size
theorem BoxP.next {w : World} {T : TypeId} {cs : Array Value} {v : Value} {ys : List (Pl × List (Int × Int))} {X Y : World} (h : BoxP w T cs v ys X) (hb : Below X.heap.size X Y) : BoxP w T cs v ys Y :=
  ⟨h.box.below hb h.box.lt, h.own.below hb, h.below.trans (hb.mono h.below.size), Nat.le_trans h.size hb.size⟩
theorem BoxP.push {w : World} {T : TypeId} {cs : Array Value} {v v' : Value} {ys : List (Pl × List (Int × Int))} {p : Pl} {l : List (Int × Int)} {X Y : World} {tmp : Obj} (h : BoxP w T cs v ys X)
    (hown' : Y.ownsRow (w.heap.size + 1) 52 14 v' (ys.length + 1) (cellsP ys ++ (plV p).toList)) (hgrow : (X.alloc tmp).grownBy Y v.ownBlock) : BoxP w T cs v' (ys ++ [(p, l)]) Y := by
  have hrow : X.ownsRow (w.heap.size + 1) 52 14 v ys.length (cellsP ys) := h.own
  have hs : X.heap.size + 1 ≤ Y.heap.size := by have := hgrow.size; simpa using this
  refine ⟨blk_app h.box (by omega) hrow hgrow, by unfold OwnsP; rw [cellsP_snoc]; simpa using hown', ?_, by have := h.size; omega⟩
  refine h.below.trans (((Below.refl w.heap.size X).alloc (by have := h.below.size; omega) tmp).grown hgrow (by simp; have := h.below.size; omega) fun j ej => ?_)
  rcases Nat.lt_or_ge j (w.heap.size + 1) with h' | h'
  · exact absurd ej.symm (own_ge hrow h')
  · omega
theorem BoxP.new (w : World) (T : TypeId) (cs : Array Value) : BoxP w T cs (.slice none 0 0) [] (w.alloc (.cells cs T)) := ⟨Blk.new w _ _, ⟨rfl, .inl ⟨rfl, rfl⟩⟩, (Below.refl _ w).alloc (Nat.le_refl _) _, by simp⟩
theorem plansOf_take {L : JL} {k : Nat} {j : Jb} {l : List (Int × Int)} (h : L[k]? = some (j, l)) : (plansOf L).take (k + 1) = (plansOf L).take k ++ [(j.p, l)] := by
  obtain ⟨hk, hx⟩ := List.getElem?_eq_some_iff.1 h
  unfold plansOf
  rw [List.take_succ_eq_append_getElem (by simpa using hk), List.getElem_map, hx]
theorem row_new {W : World} {H : Nat} {cs : Array Value} {T : TypeId} (h : Blk W H T cs) : ∀ j u, cs.toList[j]? = some u → W.cell? ((⟨H, 0, none⟩ : Addr).add j) = some u := fun j u hj => by
  rw [Addr.add_mid, Nat.zero_add, h.cell, ← Array.getElem?_toList]; exact hj
theorem plV_one (p : Pl) : ∀ u ∈ (plV p).toList, u.oneCell' = true := by
  intro u hu
  simp [plV] at hu
  rcases hu with rfl | rfl | rfl | rfl | rfl | rfl | rfl | rfl | rfl | rfl | rfl | rfl | rfl | rfl <;> rfl
theorem CArg.pls {w : World} {c : Cf} {L : JL} (h : CArg w c L) {k : Nat} (hk : k < (plansOf L).length) : PArg w (plansOf L)[k].1 (plansOf L)[k].2 := by
  rw [plansOf_get]
  have hk' : k < L.length := by rw [plansOf_len] at hk; exact hk
  obtain ⟨_, _, _, _, hpi⟩ := h.in_.at_ k hk'
  exact hpi.arg (h.p9 k hk') h.st h.tab
set_option maxRecDepth 8000 in
set_option maxHeartbeats 8000000 in
theorem cdue_ok (c : Cf) (L : JL) (t : Int) (w : World) (hA : CArg w c L) : Calls Tryz.prog 8 #[.agg (cfV c), .int .i64 t] w fun e w' => ∃ v, e = .returned (.tuple #[v, .int .i64 (cdE c.g L t)]) ∧ OwnsJ w.heap.size v (cdV c.g L t) w' ∧ Below w.heap.size w w' := by
  obtain ⟨i0, hi0, hz0, hz1, hz2⟩ := info_parts info_p14
  have HA := Lib.hid hA
  have HN := Lib.hid hA.in_.n
  have H9 := Lib.hid hA.n9
  have HBJ := Lib.hid (BoxP.new w 29 (cfV c))
  have hB := (Below.refl _ w).alloc (Nat.le_refl _) (.cells (cfV c) 29)
  have C0 := Lib.hid (ccheck_ok c L _ (hA.below hB))
  have HG := Lib.hid (fun (h : cfE c.g L = 0) => cd_due h t)
  have HF := Lib.hid (fun (h : cfE c.g L ≠ 0) => cd_bad h t)
  have HCL : Hid ((plansOf L).length = c.n) := Lib.hid (by rw [plansOf_len]; exact hA.in_.n)
  generalize cdE c.g L t = RE at *
  generalize cdV c.g L t = RV at *
  generalize cfE c.g L = E at *
  rw [cfV_eq] at HBJ C0 hB ⊢
  clear hA hB
  obtain ⟨cg, ca, cn, cc⟩ := c
  simp only at *
  by_cases hE : E = 0
  · subst hE
    obtain ⟨hE2, hV2⟩ := HG.out rfl
    have HR := Lib.hid (And.intro hE2 hV2)
    have hn9 : cn ≤ 200 := H9.out
    clear HG HF hE2 hV2
    go_enter Tryz.func8, Tryz.ntmps8
    go_wp2_with fail
    refine (C0.out).mono ?_
    rintro e_ w2 ⟨rfl, hb⟩
    have HJ := Lib.hid (BoxP.next (X := w.alloc _) HBJ.out hb)
    have k7 : w2.cell? ⟨w.heap.size, 7, none⟩ = some (.slice ca cn cc) := HJ.out.box.cell 7
    clear hb HBJ C0
    go_wp2_with fail
    go_loopw [7, 18] (fun so si wr => ∃ k : Nat, k ≤ cn ∧ si = .int .i64 k ∧ BoxP w 29 #[.int .i64 cg.cap, .int .i64 cg.q, .int .i64 cg.ar, .int .i64 cg.ag, .int .u64 cg.sd, .int .i64 cg.t, .int .i64 cg.tau, .slice ca cn cc] so ((plansOf L).take k) wr) (fun _ si _ => cn - intJ si)
    case atStart => exact ⟨0, Nat.zero_le _, rfl, by rw [List.take_zero]; exact HJ.out⟩
    case round =>
      clear HJ k7
      obtain ⟨k, hk, rfl, hI⟩ := hrel
      have HI := Lib.hid hI
      have hlen : ((plansOf L).take k).length = k := by rw [List.length_take, HCL.out]; omega
      have k7 : wr.cell? ⟨w.heap.size, 7, none⟩ = some (.slice ca cn cc) := hI.box.cell 7
      rcases Nat.lt_or_ge k cn with hlt | hge
      · obtain ⟨⟨j, l⟩, hjl⟩ : ∃ x, L[k]? = some x := ⟨_, List.getElem?_eq_getElem (by have := HN.out; omega)⟩
        have HTK := Lib.hid (plansOf_take hjl)
        have hav := HA.out.below hI.below
        obtain ⟨b, off, rfl, hcl, -⟩ := hav.in_.at_ k (List.getElem?_eq_some_iff.1 hjl).1
        rw [(List.getElem?_eq_some_iff.1 hjl).2] at hcl
        have LJ := Lib.hid (jb_load hcl)
        have ST := Lib.hid (jb_store wr j)
        have HNB := Blk.new wr 60 (jbV j)
        have LP := Lib.hid (JbAt.box HNB).plan
        have HI2 := Lib.hid (HI.out.next ((Below.refl _ wr).alloc (Nat.le_refl _) (.cells (jbV j) 60)))
        have hml1 : k + 1 ≤ maxLen := by unfold maxLen; omega
        have hml2 : (k + 1) * 120 ≤ 140737488355328 := by omega
        have hwsz := hI.size
        have hml3 : w.heap.size + 1 ≤ ((wr.alloc (.cells (jbV j) 60)).alloc (.cells #[.int .i64 j.p.k, .int .u64 j.p.x.s, .int .u64 j.p.x.mi, .int .u64 j.p.x.h, .int .u64 j.p.x.d, .int .u64 j.p.x.mo, .int .u64 j.p.x.w, .bool j.p.x.ad, .bool j.p.x.aw, .int .i64 j.p.z, .int .i64 j.p.e.s, .int .i64 j.p.e.p, .int .i64 j.p.e.c, .slice j.p.a j.p.n j.p.c] 52)).heap.size := by simp; omega
        have HROW := Lib.hid (show (wr.alloc (.cells (jbV j) 60) : World).ownsRow (w.heap.size + 1) 52 14 _ ((plansOf L).take k).length (cellsP ((plansOf L).take k)) from HI2.out.own)
        have HRN := Lib.hid (show ∀ (i : Nat) (u : Value), ([.int .i64 j.p.k, .int .u64 j.p.x.s, .int .u64 j.p.x.mi, .int .u64 j.p.x.h, .int .u64 j.p.x.d, .int .u64 j.p.x.mo, .int .u64 j.p.x.w, .bool j.p.x.ad, .bool j.p.x.aw, .int .i64 j.p.z, .int .i64 j.p.e.s, .int .i64 j.p.e.p, .int .i64 j.p.e.c, .slice j.p.a j.p.n j.p.c] : List Value)[i]? = some u → ((wr.alloc (.cells (jbV j) 60)).alloc (.cells #[.int .i64 j.p.k, .int .u64 j.p.x.s, .int .u64 j.p.x.mi, .int .u64 j.p.x.h, .int .u64 j.p.x.d, .int .u64 j.p.x.mo, .int .u64 j.p.x.w, .bool j.p.x.ad, .bool j.p.x.aw, .int .i64 j.p.z, .int .i64 j.p.e.s, .int .i64 j.p.e.p, .int .i64 j.p.e.c, .slice j.p.a j.p.n j.p.c] 52)).cell? ((⟨wr.heap.size + 1, 0, none⟩ : Addr).add i) = some u from row_new (Blk.newAt (w := wr.alloc (.cells (jbV j) 60)) (t := 52) (cs := plV j.p) (H := wr.heap.size + 1) (by simp)))
        have HLN := Lib.hid hlen
        rw [hlen] at HROW
        have HPJ := Lib.hid (show ∀ u ∈ ([.int .i64 j.p.k, .int .u64 j.p.x.s, .int .u64 j.p.x.mi, .int .u64 j.p.x.h, .int .u64 j.p.x.d, .int .u64 j.p.x.mo, .int .u64 j.p.x.w, .bool j.p.x.ad, .bool j.p.x.aw, .int .i64 j.p.z, .int .i64 j.p.e.s, .int .i64 j.p.e.p, .int .i64 j.p.e.c, .slice j.p.a j.p.n j.p.c] : List Value), u.oneCell' = true from plV_one j.p)
        rw [show plV j.p = #[.int .i64 j.p.k, .int .u64 j.p.x.s, .int .u64 j.p.x.mi, .int .u64 j.p.x.h, .int .u64 j.p.x.d, .int .u64 j.p.x.mo, .int .u64 j.p.x.w, .bool j.p.x.ad, .bool j.p.x.aw, .int .i64 j.p.z, .int .i64 j.p.e.s, .int .i64 j.p.e.p, .int .i64 j.p.e.c, .slice j.p.a j.p.n j.p.c] from rfl] at LP
        clear hcl hav hI hjl hlen HNB
        generalize (plansOf L).take k = ys at *
        go_wp2_with (first | (refine wpList_load_by rfl 60 _ rfl b (off + k * 30) (.agg (jbV j)) rfl LJ.out ?_) | (refine wpList_store_by rfl 60 _ _ rfl wr.heap.size 0 (.agg (jbV j)) _ rfl rfl ST.out ?_) | (refine wpList_load_by rfl 52 _ rfl wr.heap.size (0 + 1) (.agg #[.int .i64 j.p.k, .int .u64 j.p.x.s, .int .u64 j.p.x.mi, .int .u64 j.p.x.h, .int .u64 j.p.x.d, .int .u64 j.p.x.mo, .int .u64 j.p.x.w, .bool j.p.x.ad, .bool j.p.x.aw, .int .i64 j.p.z, .int .i64 j.p.e.s, .int .i64 j.p.e.p, .int .i64 j.p.e.c, .slice j.p.a j.p.n j.p.c]) rfl LP.out ?_) | (at_builtin; refine wpList_append_own _ rfl _ _ 71 rfl (w.heap.size + 1) 52 i0 (.agg #[.int .i64 0, .int .u64 0, .int .u64 0, .int .u64 0, .int .u64 0, .int .u64 0, .int .u64 0, .bool false, .bool false, .int .i64 0, .int .i64 0, .int .i64 0, .int .i64 0, .slice none 0 0]) 14 120 Tryz.underlying71 hi0 hz0 hz1 hz2 rfl (by decide) _ _ _ rfl (own_alloc HROW.out _) ⟨wr.heap.size + 1, 0, none⟩ 1 1 ([.int .i64 j.p.k, .int .u64 j.p.x.s, .int .u64 j.p.x.mi, .int .u64 j.p.x.h, .int .u64 j.p.x.d, .int .u64 j.p.x.mo, .int .u64 j.p.x.w, .bool j.p.x.ad, .bool j.p.x.aw, .int .i64 j.p.z, .int .i64 j.p.e.s, .int .i64 j.p.e.p, .int .i64 j.p.e.c, .slice j.p.a j.p.n j.p.c] : List Value) rfl rfl HRN.out HPJ.out hml1 hml2 hml3 ?_; intro v' w4 hown' hgrow _; have HP := Lib.hid (HI2.out.push (p := j.p) (l := l) (by rw [HLN.out]; exact hown') hgrow); clear hown' hgrow))
        refine ⟨⟨k + 1, by omega, by go_num, by rw [HTK.out]; exact HP.out⟩, ?_⟩
        simp [intJ]; omega
      · obtain rfl : cn = k := by omega
        have hown := hI.own
        rw [List.take_of_length_le (by rw [HCL.out]; exact Nat.le_refl _)] at hown
        obtain ⟨pa, pcap, he, hcells⟩ := hown.shape
        rw [HCL.out] at he
        subst he
        have hav := HA.out.below hI.below
        have HPA : Hid (PlsAt wr pa (plansOf L)) := Lib.hid (fun i hi => by
          obtain ⟨b, off, e, h1⟩ := hcells i hi
          exact ⟨b, off, e, h1, hav.pls hi⟩)
        have CD := Lib.hid (pldue_ok (plansOf L) pa cn pcap HCL.out (by omega) t wr HPA.out)
        rw [← HR.out.1, ← HR.out.2] at CD
        clear hown hcells hav hI hlen k7
        go_wp2_with fail
        refine (CD.out).mono ?_
        rintro e_ w5 ⟨v, rfl, ho, hb⟩
        have HO := Lib.hid (ho.mono HI.out.below.size)
        have HB5 := Lib.hid (HI.out.below.trans (hb.mono HI.out.below.size))
        clear ho hb
        go_wp2_with fail
        go_ret2
        exact ⟨_, rfl, HO.out, HB5.out⟩
  · have h1 : (E == 0) = false := by rw [beq_eq_false_iff_ne]; exact hE
    have h2 : (E != 0) = true := by rw [bne, h1]; rfl
    have h3 : decide (E = 0) = false := decide_eq_false hE
    obtain ⟨rfl, rfl⟩ := HF.out hE
    clear HG HF hE
    go_enter Tryz.func8, Tryz.ntmps8
    go_wp2_with fail
    refine (C0.out).mono ?_
    rintro e_ w2 ⟨rfl, hb⟩
    have HJ := Lib.hid (BoxP.next (X := w.alloc _) HBJ.out hb)
    clear hb HBJ C0
    go_wp2_with fail
    go_ret2
    exact ⟨_, rfl, OwnsJ.nil _ _, HJ.out.below⟩
end Go.Proofs.YtihadbkjfocdoaaGreatDoor.BW
namespace Go.Proofs.YtihadbkjfocdoaaGreatDoor.BW
open Go.RowKit BM Go.Shelf MC RK
open BK hiding ret_bool ret_i64

theorem results_tmp4 {fn : Func} {t u v x : Tmp} (h : fn.results = #[.tmp t, .tmp u, .tmp v, .tmp x]) (tmps : Array Value) (P : Program) (w : World) :
    (results fn tmps).run P w = .ok (.tuple #[tmps.getD t undef, tmps.getD u undef, tmps.getD v undef, tmps.getD x undef]) w := by
  simp [results, h]
/-- The earliest time so far, and the jobs that have it. -/
def nxStep (s : Option Int × List Int) (i : Int) (n : Option Int) : Option Int × List Int :=
  match n with
  | none => s
  | some m => match s.1 with
    | none => (some m, [i])
    | some b => if b < m then s else if m = b then (some b, s.2 ++ [i]) else (some m, [i])
noncomputable def nxA (t : Int) (P : List (Pl × List (Int × Int))) : Nat → Option Int × List Int
  | 0 => (none, [])
  | k + 1 => match P[k]? with
    | some x => nxStep (nxA t P k) k (nxQ x.1 x.2 t)
    | none => nxA t P k
theorem nxA_succ {t : Int} {P : List (Pl × List (Int × Int))} {k : Nat} {p : Pl} {l : List (Int × Int)} (h : P[k]? = some (p, l)) : nxA t P (k + 1) = nxStep (nxA t P k) k (nxQ p l t) := by
  show (match P[k]? with
    | some x => nxStep (nxA t P k) k (nxQ x.1 x.2 t)
    | none => nxA t P k) = _
  rw [h]
theorem nxStep_none (s : Option Int × List Int) (i : Int) : nxStep s i none = s := rfl
theorem nxStep_first (s : Option Int × List Int) (i m : Int) (h : s.1 = none) : nxStep s i (some m) = (some m, [i]) := by
  unfold nxStep
  simp only [h]
theorem nxStep_late (s : Option Int × List Int) (i m b : Int) (h : s.1 = some b) (hb : b < m) : nxStep s i (some m) = s := by
  unfold nxStep
  simp only [h]
  rw [if_pos hb]
theorem nxStep_same (s : Option Int × List Int) (i m : Int) (h : s.1 = some m) : nxStep s i (some m) = (some m, s.2 ++ [i]) := by
  unfold nxStep
  simp only [h]
  rw [if_neg (by omega)]
  simp
theorem nxStep_new (s : Option Int × List Int) (i m b : Int) (h : s.1 = some b) (hb : m < b) : nxStep s i (some m) = (some m, [i]) := by
  unfold nxStep
  simp only [h]
  rw [if_neg (by omega), if_neg (by omega)]
theorem nxQ_range {p : Pl} {l : List (Int × Int)} {t m : Int} (h : plE p l = 0) (ht : 0 ≤ t ∧ t ≤ 253402300799) (hm : nxQ p l t = some m) : t < m ∧ m ≤ 253402300799 ∧ isP p l m = true := by
  rw [nxQ_ok (fin_one h ht), nxP_fr] at hm
  obtain ⟨⟨h1, h2, h3⟩, _⟩ := frP_some.1 hm
  exact ⟨by omega, h2, h3⟩
/-- What is known of it. -/
structure NxOk (t : Int) (k : Nat) (s : Option Int × List Int) : Prop where
  none : s.1 = none → s.2 = []
  range : ∀ b, s.1 = some b → t < b ∧ b ≤ 253402300799
  len : s.2.length ≤ k
theorem NxOk.step {t : Int} {k : Nat} {s : Option Int × List Int} (h : NxOk t k s) (i : Int) (n : Option Int) (hn : ∀ m, n = some m → t < m ∧ m ≤ 253402300799) : NxOk t (k + 1) (nxStep s i n) := by
  have h0 : NxOk t (k + 1) s := ⟨h.none, h.range, Nat.le_succ_of_le h.len⟩
  cases n with
  | none => exact h0
  | some m =>
    have hone : NxOk t (k + 1) (some m, [i]) := ⟨fun h => (by cases h), fun b hb => by injection hb with hb; subst hb; exact hn _ rfl, by simp⟩
    cases hs : s.1 with
    | none => rw [nxStep_first s i m hs]; exact hone
    | some b =>
      by_cases hb : b < m
      · rw [nxStep_late s i m b hs hb]; exact h0
      · by_cases he : m = b
        · subst he
          rw [nxStep_same s i m hs]
          exact ⟨fun h => (by cases h), fun b hb => by injection hb with hb; subst hb; exact hn _ rfl, by have := h.len; simp; omega⟩
        · rw [nxStep_new s i m b hs (by omega)]; exact hone
theorem nxA_ok {t : Int} {P : List (Pl × List (Int × Int))} (hP : ∀ (k : Nat) (p : Pl) (l : List (Int × Int)), P[k]? = some (p, l) → plE p l = 0) (ht : 0 ≤ t ∧ t ≤ 253402300799) : ∀ k, k ≤ P.length → NxOk t k (nxA t P k)
  | 0, _ => ⟨fun _ => rfl, fun b hb => (by cases hb), Nat.le_refl _⟩
  | k + 1, hk => by
    have hx : P[k]? = some ((P[k]'(by omega)).1, (P[k]'(by omega)).2) := List.getElem?_eq_getElem (by omega)
    rw [nxA_succ hx]
    exact (nxA_ok hP ht k (by omega)).step _ _ (fun m hm => by
      obtain ⟨h1, h2, _⟩ := nxQ_range (hP k _ _ hx) ht hm
      exact ⟨h1, h2⟩)
/-- What Next answers. -/
noncomputable def cnS (g : Gl) (L : JL) (t : Int) : Option Int × List Int := if cdE g L t = 0 then nxA t (plansOf L) L.length else (none, [])
noncomputable def cnT (g : Gl) (L : JL) (t : Int) : Int := optI (cnS g L t).1
noncomputable def cnB (g : Gl) (L : JL) (t : Int) : Bool := (cnS g L t).1.isSome
noncomputable def cnL (g : Gl) (L : JL) (t : Int) : List Int := (cnS g L t).2
theorem cd_zero {g : Gl} {L : JL} {t : Int} (h : cdE g L t = 0) : CfOk g L ∧ 0 ≤ t ∧ t ≤ 253402300799 := by
  unfold cdE at h
  by_cases h1 : cfE g L = 0
  · rw [if_pos h1] at h
    refine ⟨cfE_zero.1 h1, ?_⟩
    by_cases h2 : vT t = true
    · unfold vT at h2; simpa using h2
    · rw [if_neg h2] at h; cases h
  · rw [if_neg h1] at h; exact absurd h h1
theorem plans_ok {g : Gl} {L : JL} (h : CfOk g L) : ∀ (k : Nat) (p : Pl) (l : List (Int × Int)), (plansOf L)[k]? = some (p, l) → plE p l = 0 := fun k p l hk => by
  obtain ⟨hk', hx⟩ := List.getElem?_eq_some_iff.1 hk
  have hkl : k < L.length := by rw [plansOf_len] at hk'; exact hk'
  rw [plansOf_get] at hx
  injection hx with h1 h2
  subst h1 h2
  exact okJ_pl h.all (List.getElem?_eq_getElem hkl)
theorem BoxJ.reset {w : World} {T : TypeId} {cs : Array Value} {v : Value} {ys : List Int} {X : World} (h : BoxJ w T cs v ys X) : BoxJ w T cs (.slice none 0 0) [] X := ⟨h.box, OwnsJ.nil _ _, h.below, h.size⟩
theorem ret_4 {a b : Int} {u v : Value} {p q : Bool} {c d : Int} (h : a = b) (h1 : u = v) (h2 : p = q) (h' : c = d) : Ending.returned (.tuple #[.int .i64 a, u, .bool p, .int .i64 c]) = .returned (.tuple #[.int .i64 b, v, .bool q, .int .i64 d]) := by rw [h, h1, h2, h']
set_option maxRecDepth 8000 in
set_option maxHeartbeats 8000000 in
theorem cnext_ok (c : Cf) (L : JL) (t : Int) (w : World) (hA : CArg w c L) : Calls Tryz.prog 7 #[.agg (cfV c), .int .i64 t] w fun e w' => ∃ v, e = .returned (.tuple #[.int .i64 (cnT c.g L t), v, .bool (cnB c.g L t), .int .i64 (cdE c.g L t)]) ∧ OwnsJ w.heap.size v (cnL c.g L t) w' ∧ Below w.heap.size w w' := by
  obtain ⟨i0, hi0, hz0, hz1, hz2⟩ := info_parts info_int
  have HA := Lib.hid hA
  have HN := Lib.hid hA.in_.n
  have H9 := Lib.hid hA.n9
  have HBJ := Lib.hid (BoxJ.new w 29 (cfV c))
  have hB := (Below.refl _ w).alloc (Nat.le_refl _) (.cells (cfV c) 29)
  have C0 := Lib.hid (cdue_ok c L t _ (hA.below hB))
  have HZ := Lib.hid (fun (h : cdE c.g L t = 0) => cd_zero h)
  have HS : Hid (cdE c.g L t = 0 → cnT c.g L t = optI (nxA t (plansOf L) c.n).1 ∧ cnB c.g L t = (nxA t (plansOf L) c.n).1.isSome ∧ cnL c.g L t = (nxA t (plansOf L) c.n).2) := Lib.hid (fun h => by unfold cnT cnB cnL cnS; rw [if_pos h, hA.in_.n]; exact ⟨rfl, rfl, rfl⟩)
  have HF : Hid (cdE c.g L t ≠ 0 → cnT c.g L t = 0 ∧ cnB c.g L t = false ∧ cnL c.g L t = []) := Lib.hid (fun h => by unfold cnT cnB cnL cnS; rw [if_neg h]; exact ⟨rfl, rfl, rfl⟩)
  have HCL : Hid ((plansOf L).length = c.n) := Lib.hid (by rw [plansOf_len]; exact hA.in_.n)
  generalize cnT c.g L t = RT at *
  generalize cnB c.g L t = RB at *
  generalize cnL c.g L t = RL at *
  generalize cdV c.g L t = DV at *
  generalize cdE c.g L t = E at *
  rw [cfV_eq] at HBJ C0 hB ⊢
  clear hA hB
  obtain ⟨cg, ca, cn, cc⟩ := c
  simp only at *
  by_cases hE : E = 0
  · subst hE
    have HO := Lib.hid (HZ.out rfl)
    have HR := Lib.hid (HS.out rfl)
    have hn9 : cn ≤ 200 := H9.out
    have HNX := Lib.hid (nxA_ok (plans_ok HO.out.1) HO.out.2)
    clear HZ HS HF
    go_enter Tryz.func7, Tryz.ntmps7
    go_wp2_with fail
    refine (C0.out).mono ?_
    rintro e_ w2 ⟨v0, rfl, -, hb⟩
    have HJ := Lib.hid (BoxJ.next (X := w.alloc _) HBJ.out hb)
    have k7 : w2.cell? ⟨w.heap.size, 7, none⟩ = some (.slice ca cn cc) := HJ.out.box.cell 7
    clear hb HBJ C0
    go_wp2_with fail
    go_loopw [10, 11, 29] (fun sb so si wr => ∃ k : Nat, k ≤ cn ∧ si = .int .i64 k ∧ sb = .int .i64 ((nxA t (plansOf L) k).1.getD (4611686018427387904)) ∧ BoxJ w 29 #[.int .i64 cg.cap, .int .i64 cg.q, .int .i64 cg.ar, .int .i64 cg.ag, .int .u64 cg.sd, .int .i64 cg.t, .int .i64 cg.tau, .slice ca cn cc] so (nxA t (plansOf L) k).2 wr) (fun _ _ si _ => cn - intJ si)
    case atStart => exact ⟨0, Nat.zero_le _, rfl, rfl, HJ.out⟩
    case round =>
      clear HJ k7
      obtain ⟨k, hk, rfl, rfl, hI⟩ := hrel
      have HI := Lib.hid hI
      have k7 : wr.cell? ⟨w.heap.size, 7, none⟩ = some (.slice ca cn cc) := hI.box.cell 7
      have HNK := Lib.hid (HNX.out k (by rw [HCL.out]; exact hk))
      rcases Nat.lt_or_ge k cn with hlt | hge
      · obtain ⟨⟨j, l⟩, hjl⟩ : ∃ x, L[k]? = some x := ⟨_, List.getElem?_eq_getElem (by have := HN.out; omega)⟩
        have hpj := plansOf_at hjl
        have HSU := Lib.hid (nxA_succ (t := t) hpj)
        have hpe := okJ_pl HO.out.1.all hjl
        have HRG := Lib.hid (fun m (hm : nxQ j.p l t = some m) => nxQ_range hpe HO.out.2 hm)
        have hkp : k < (plansOf L).length := by rw [HCL.out]; exact hlt
        have hpg : (plansOf L)[k] = (j.p, l) := (List.getElem?_eq_some_iff.1 hpj).2
        have hav := HA.out.below hI.below
        obtain ⟨b, off, rfl, hcl, -⟩ := hav.in_.at_ k (List.getElem?_eq_some_iff.1 hjl).1
        rw [(List.getElem?_eq_some_iff.1 hjl).2] at hcl
        have LJ := Lib.hid (jb_load hcl)
        have ST := Lib.hid (jb_store wr j)
        have LP := Lib.hid (JbAt.box (Blk.new wr 60 (jbV j))).plan
        have hal := (Below.refl _ wr).alloc (Nat.le_refl _) (.cells (jbV j) 60)
        have HI2 := Lib.hid (HI.out.next hal)
        have hpa := (hav.below hal).pls hkp
        rw [hpg] at hpa
        simp only at hpa
        have CX := Lib.hid (plnext_ok j.p l t (wr.alloc (.cells (jbV j) 60)) hpa)
        rw [fin_one hpe HO.out.2] at CX
        have hwsz := hI.size
        clear hcl hav hI hjl hpg hpa hkp hpj hpe hal
        generalize nxQ j.p l t = nq at *
        generalize hs0 : nxA t (plansOf L) k = s at *
        obtain ⟨s1, s2⟩ := s
        simp only at *
        clear hs0
        cases nq with
        | none =>
          have HS2 := Lib.hid (HSU.out.trans (nxStep_none _ _))
          simp only [optI, Option.getD_none, Option.isSome_none] at CX
          clear HSU
          go_wp2_with (first | (refine wpList_load_by rfl 60 _ rfl b (off + k * 30) (.agg (jbV j)) rfl LJ.out ?_) | (refine wpList_store_by rfl 60 _ _ rfl wr.heap.size 0 (.agg (jbV j)) _ rfl rfl ST.out ?_) | (refine wpList_load_by rfl 52 _ rfl wr.heap.size (0 + 1) (.agg (plV j.p)) rfl LP.out ?_))
          refine (CX.out).mono ?_
          rintro e_ w5 ⟨rfl, hb⟩
          have H5 := Lib.hid (BoxJ.next (X := (wr.alloc (.cells (jbV j) 60))) HI2.out hb)
          clear hb
          go_wp2_with fail
          refine ⟨⟨k + 1, by omega, by go_num, by rw [HS2.out], by rw [HS2.out]; exact H5.out⟩, ?_⟩
          simp [intJ]; omega
        | some m =>
          obtain ⟨hm1, hm2, -⟩ := HRG.out m rfl
          have htt := HO.out.2.1
          simp only [optI, Option.getD_some, Option.isSome_some] at CX
          have hml1 : 0 + 1 ≤ maxLen := by unfold maxLen; omega
          have hml2 : (0 + 1) * 8 ≤ 140737488355328 := by omega
          have hl2 : s2.length ≤ 200 := by have := HNK.out.len; simp only at this; omega
          have hml1' : s2.length + 1 ≤ maxLen := by unfold maxLen; omega
          have hml2' : (s2.length + 1) * 8 ≤ 140737488355328 := by omega
          have hm0 : 0 < m := by omega
          clear HRG hm1 htt
          cases s1 with
          | none =>
            have HS2 := Lib.hid (HSU.out.trans (nxStep_first _ _ _ rfl))
            have hs2 : s2 = [] := HNK.out.none rfl
            subst hs2
            have d1 : decide (4611686018427387904 < m) = false := decide_eq_false (by omega)
            have d2 : decide (m < 4611686018427387904) = true := decide_eq_true (by omega)
            simp only [Option.getD_none]
            clear HSU HNK hm2 hm0
            go_wp2_with (first | (refine wpList_load_by rfl 60 _ rfl b (off + k * 30) (.agg (jbV j)) rfl LJ.out ?_) | (refine wpList_store_by rfl 60 _ _ rfl wr.heap.size 0 (.agg (jbV j)) _ rfl rfl ST.out ?_) | (refine wpList_load_by rfl 52 _ rfl wr.heap.size (0 + 1) (.agg (plV j.p)) rfl LP.out ?_))
            refine (CX.out).mono ?_
            rintro e_ w5 ⟨rfl, hb⟩
            have H5 := Lib.hid (BoxJ.next (X := (wr.alloc (.cells (jbV j) 60))) HI2.out hb)
            have hsz5 := H5.out.size
            have H5 := Lib.hid H5.out.reset
            have HROW := Lib.hid (show w5.ownsRow (w.heap.size + 1) 3 1 _ ([] : List Int).length (([] : List Int).map tcell) from H5.out.own)
            have hml3 : w.heap.size + 1 ≤ (w5.alloc (.cells #[.int .i64 (k : Int)] 3)).heap.size := by simp; omega
            clear hb
            go_wp2_with (at_builtin; refine wpList_append_own _ rfl _ _ 31 rfl (w.heap.size + 1) 3 i0 (.int .i64 0) 1 8 Tryz.underlying31 hi0 hz0 hz1 hz2 rfl (by decide) _ _ _ rfl (own_alloc HROW.out _) ⟨w5.heap.size, 0, none⟩ 1 1 [.int .i64 (k : Int)] rfl rfl (cell_one_new _ _ _) (by simp [Value.oneCell']) hml1 hml2 hml3 ?_; intro v' w4 hown' hgrow _; have HP := Lib.hid (H5.out.push (d := (k : Int)) hown' hgrow); clear hown' hgrow)
            refine ⟨⟨k + 1, by omega, by go_num, by rw [HS2.out]; rfl, by rw [HS2.out]; exact HP.out⟩, ?_⟩
            simp [intJ]; omega
          | some bb =>
            obtain ⟨hb1, hb2⟩ := HNK.out.range bb rfl
            have hb0 : 0 ≤ bb := by have := HO.out.2.1; omega
            simp only [Option.getD_some]
            by_cases hlate : bb < m
            · have HS2 := Lib.hid (HSU.out.trans (nxStep_late _ _ _ bb rfl hlate))
              have d1 : decide (bb < m) = true := decide_eq_true hlate
              clear HSU HNK hm2 hm0 hb1 hb2 hb0 hlate
              go_wp2_with (first | (refine wpList_load_by rfl 60 _ rfl b (off + k * 30) (.agg (jbV j)) rfl LJ.out ?_) | (refine wpList_store_by rfl 60 _ _ rfl wr.heap.size 0 (.agg (jbV j)) _ rfl rfl ST.out ?_) | (refine wpList_load_by rfl 52 _ rfl wr.heap.size (0 + 1) (.agg (plV j.p)) rfl LP.out ?_))
              refine (CX.out).mono ?_
              rintro e_ w5 ⟨rfl, hb⟩
              have H5 := Lib.hid (BoxJ.next (X := (wr.alloc (.cells (jbV j) 60))) HI2.out hb)
              clear hb
              go_wp2_with fail
              refine ⟨⟨k + 1, by omega, by go_num, by rw [HS2.out]; rfl, by rw [HS2.out]; exact H5.out⟩, ?_⟩
              simp [intJ]; omega
            · have d1 : decide (bb < m) = false := decide_eq_false hlate
              by_cases hsame : m = bb
              · subst hsame
                have HS2 := Lib.hid (HSU.out.trans (nxStep_same _ _ _ rfl))
                have d2 : decide (m < m) = false := decide_eq_false (by omega)
                clear HSU HNK hm2 hm0 hb1 hb2 hb0 hlate
                go_wp2_with (first | (refine wpList_load_by rfl 60 _ rfl b (off + k * 30) (.agg (jbV j)) rfl LJ.out ?_) | (refine wpList_store_by rfl 60 _ _ rfl wr.heap.size 0 (.agg (jbV j)) _ rfl rfl ST.out ?_) | (refine wpList_load_by rfl 52 _ rfl wr.heap.size (0 + 1) (.agg (plV j.p)) rfl LP.out ?_))
                refine (CX.out).mono ?_
                rintro e_ w5 ⟨rfl, hb⟩
                have H5 := Lib.hid (BoxJ.next (X := (wr.alloc (.cells (jbV j) 60))) HI2.out hb)
                have hsz5 := H5.out.size
                have HROW := Lib.hid (show w5.ownsRow (w.heap.size + 1) 3 1 _ s2.length (s2.map tcell) from H5.out.own)
                have hml3 : w.heap.size + 1 ≤ (w5.alloc (.cells #[.int .i64 (k : Int)] 3)).heap.size := by simp; omega
                clear hb
                go_wp2_with (at_builtin; refine wpList_append_own _ rfl _ _ 31 rfl (w.heap.size + 1) 3 i0 (.int .i64 0) 1 8 Tryz.underlying31 hi0 hz0 hz1 hz2 rfl (by decide) _ _ _ rfl (own_alloc HROW.out _) ⟨w5.heap.size, 0, none⟩ 1 1 [.int .i64 (k : Int)] rfl rfl (cell_one_new _ _ _) (by simp [Value.oneCell']) hml1' hml2' hml3 ?_; intro v' w4 hown' hgrow _; have HP := Lib.hid (H5.out.push (d := (k : Int)) hown' hgrow); clear hown' hgrow)
                refine ⟨⟨k + 1, by omega, by go_num, by rw [HS2.out]; rfl, by rw [HS2.out]; exact HP.out⟩, ?_⟩
                simp [intJ]; omega
              · have HS2 := Lib.hid (HSU.out.trans (nxStep_new _ _ _ bb rfl (by omega)))
                have d2 : decide (m < bb) = true := decide_eq_true (by omega)
                clear HSU HNK hm2 hm0 hb1 hb2 hb0 hlate hsame
                go_wp2_with (first | (refine wpList_load_by rfl 60 _ rfl b (off + k * 30) (.agg (jbV j)) rfl LJ.out ?_) | (refine wpList_store_by rfl 60 _ _ rfl wr.heap.size 0 (.agg (jbV j)) _ rfl rfl ST.out ?_) | (refine wpList_load_by rfl 52 _ rfl wr.heap.size (0 + 1) (.agg (plV j.p)) rfl LP.out ?_))
                refine (CX.out).mono ?_
                rintro e_ w5 ⟨rfl, hb⟩
                have H5 := Lib.hid (BoxJ.next (X := (wr.alloc (.cells (jbV j) 60))) HI2.out hb)
                have hsz5 := H5.out.size
                have H5 := Lib.hid H5.out.reset
                have HROW := Lib.hid (show w5.ownsRow (w.heap.size + 1) 3 1 _ ([] : List Int).length (([] : List Int).map tcell) from H5.out.own)
                have hml3 : w.heap.size + 1 ≤ (w5.alloc (.cells #[.int .i64 (k : Int)] 3)).heap.size := by simp; omega
                clear hb
                go_wp2_with (at_builtin; refine wpList_append_own _ rfl _ _ 31 rfl (w.heap.size + 1) 3 i0 (.int .i64 0) 1 8 Tryz.underlying31 hi0 hz0 hz1 hz2 rfl (by decide) _ _ _ rfl (own_alloc HROW.out _) ⟨w5.heap.size, 0, none⟩ 1 1 [.int .i64 (k : Int)] rfl rfl (cell_one_new _ _ _) (by simp [Value.oneCell']) hml1 hml2 hml3 ?_; intro v' w4 hown' hgrow _; have HP := Lib.hid (H5.out.push (d := (k : Int)) hown' hgrow); clear hown' hgrow)
                refine ⟨⟨k + 1, by omega, by go_num, by rw [HS2.out]; rfl, by rw [HS2.out]; exact HP.out⟩, ?_⟩
                simp [intJ]; omega
      · obtain rfl : cn = k := by omega
        generalize hs0 : nxA t (plansOf L) cn = s at *
        obtain ⟨s1, s2⟩ := s
        simp only at *
        clear hs0 hI
        cases s1 with
        | none =>
          have hs2 : s2 = [] := HNK.out.none rfl
          subst hs2
          simp only [Option.getD_none]
          go_wp2_with fail
          (try simp only [Exit.inBlock, Exit.then])
          refine bodyPost_ret (results_tmp4 rfl _ _ _) rfl ?_
          exact ⟨_, ret_4 HR.out.1.symm rfl HR.out.2.1.symm rfl, by rw [HR.out.2.2]; exact OwnsJ.nil _ _, HI.out.below⟩
        | some bb =>
          obtain ⟨hb1, hb2⟩ := HNK.out.range bb rfl
          have hb0 : 0 ≤ bb := by have := HO.out.2.1; omega
          simp only [Option.getD_some]
          have d1 : (bb == 4611686018427387904) = false := by rw [beq_eq_false_iff_ne]; omega
          have d2 : decide (bb = 4611686018427387904) = false := decide_eq_false (by omega)
          clear HNK hb1 hb2 hb0
          go_wp2_with fail
          (try simp only [Exit.inBlock, Exit.then])
          refine bodyPost_ret (results_tmp4 rfl _ _ _) rfl ?_
          exact ⟨_, ret_4 HR.out.1.symm rfl HR.out.2.1.symm rfl, by rw [HR.out.2.2]; exact HI.out.own.mono (Nat.le_succ _), HI.out.below⟩
  · have h1 : (E == 0) = false := by rw [beq_eq_false_iff_ne]; exact hE
    have h2 : (E != 0) = true := by rw [bne, h1]; rfl
    have h3 : decide (E = 0) = false := decide_eq_false hE
    obtain ⟨rfl, rfl, rfl⟩ := HF.out hE
    clear HZ HS HF hE
    go_enter Tryz.func7, Tryz.ntmps7
    go_wp2_with fail
    refine (C0.out).mono ?_
    rintro e_ w2 ⟨v0, rfl, -, hb⟩
    have HJ := Lib.hid (BoxJ.next (X := w.alloc _) HBJ.out hb)
    clear hb HBJ C0
    go_wp2_with fail
    (try simp only [Exit.inBlock, Exit.then])
    refine bodyPost_ret (results_tmp4 rfl _ _ _) rfl ?_
    exact ⟨_, rfl, OwnsJ.nil _ _, HJ.out.below⟩
end Go.Proofs.YtihadbkjfocdoaaGreatDoor.BW
