/- Walk of ConfigKnown. -/
import Derived.Test.YtihadbkjfocdoaaGreatDoorCKnM
import Derived.Deep.RegionHeld3
namespace Go.Proofs.YtihadbkjfocdoaaGreatDoor.BW
open Go.RowKit BM Go.Shelf MC RK
open BK hiding ret_bool ret_i64

/-- Beside the wrong globals: they, the good ones, and nothing old has turned. -/
structure KnB (w6 W : World) : Prop where
  below : Below w6.heap.size w6 W
  g : Blk W w6.heap.size 26 #[.int .i64 2, .int .i64 10, .int .i64 10, .int .i64 60, .int .u64 0, .int .i64 0, .int .i64 0]
  wr : Blk W (w6.heap.size + 1) 26 wrC
theorem KnB.next {w6 X Y : World} (h : KnB w6 X) (hb : Below X.heap.size X Y) : KnB w6 Y := ⟨h.below.trans (hb.mono h.below.size), h.g.below hb h.g.lt, h.wr.below hb h.wr.lt⟩
theorem all_listedB {l : List Oper} {listed : Array Bool} (hs : listed.size = l.length) (hb : ((List.range l.length).all fun i => match l[i]? with | some o => o.after.all (fun e => !Region.binds .any e || decide (e.on < i)) | none => true) = true) (h : Region.ready .any l.toArray listed = []) : ∀ i, i < l.length → listed[i]? = some true := by
  intro i
  induction i using Nat.strongRecOn with
  | ind i ih =>
    intro hi
    have hl : i < listed.size := by omega
    cases hv : listed[i] with
    | true => rw [Array.getElem?_eq_getElem hl, hv]
    | false =>
      exfalso
      have : i ∈ Region.ready .any l.toArray listed := by
        unfold Region.ready
        rw [List.mem_filter, List.mem_range, Bool.and_eq_true]
        refine ⟨by simpa using hi, ?_, ?_⟩
        · rw [Array.getD_eq_getD_getElem?, Array.getElem?_eq_getElem hl, hv]; rfl
        · rw [List.getElem?_toArray, List.getElem?_eq_getElem hi]
          simp only [Option.map_some, Option.getD_some, Array.all_eq_true', Bool.or_eq_true, Bool.not_eq_true']
          intro e he
          have h1 := List.all_eq_true.1 hb i (List.mem_range.2 hi)
          rw [List.getElem?_eq_getElem hi] at h1
          have h2 := (Array.all_eq_true'.1 h1) e he
          rw [Bool.or_eq_true, Bool.not_eq_true', decide_eq_true_eq] at h2
          rcases h2 with h2 | h2
          · exact .inl h2
          · right
            rw [Array.getD_eq_getD_getElem?, ih e.on h2 (by omega)]; rfl
      rw [h] at this
      cases this
theorem set_neK {listed : Array Bool} {i j : Nat} (h : j ≠ i) (b : Bool) : (listed.setIfInBounds i b)[j]? = listed[j]? := Array.getElem?_setIfInBounds_ne (fun e => h e.symm)
theorem set_eqK {listed : Array Bool} {i : Nat} {x : Bool} (h : listed[i]? = some x) : (listed.setIfInBounds i true)[i]? = some true := by
  have := (Array.getElem?_eq_some_iff.1 h).1
  simp [this]
/-- What the operations of the region yield that makes a configuration. -/
def PK (H k : Nat) (gk : Gl) (i : Nat) (v : Value) : Prop := match i with
  | 0 => v = .slice (some ⟨H, 0, none⟩) 9 9
  | 1 => v = .int .i64 k
  | 2 => v = .pointer (some ⟨H, k * 7, none⟩)
  | 3 => v = .agg #[.int .i64 gk.cap, .int .i64 gk.q, .int .i64 gk.ar, .int .i64 gk.ag, .int .u64 gk.sd, .int .i64 gk.t, .int .i64 gk.tau]
  | _ => True
structure InvK (X0 : World) (H k : Nat) (gk : Gl) (cs : Array Value) (listed : Array Bool) (v : Nat → Value) (W : World) : Prop where
  all : ∀ i, listed[i]? = some true → PK H k gk i (v i)
  below : Below X0.heap.size X0 W
  mks : listed[4]? = some true → ∃ q, v 4 = .slice (some ⟨q, 0, none⟩) 65 65 ∧ Blk W q 60 cs
  bd : listed[5]? = some true → ∃ q, v 5 = .agg #[.int .i64 gk.cap, .int .i64 gk.q, .int .i64 gk.ar, .int .i64 gk.ag, .int .u64 gk.sd, .int .i64 gk.t, .int .i64 gk.tau, .slice (some ⟨q, 0, none⟩) 65 65] ∧ Blk W q 60 cs
  al : listed[6]? = some true → listed[7]? = some false → ∃ p, v 6 = .pointer (some ⟨p, 0, none⟩) ∧ X0.heap.size ≤ p ∧ Blk W p 29 #[.int .i64 0, .int .i64 0, .int .i64 0, .int .i64 0, .int .u64 0, .int .i64 0, .int .i64 0, .slice none 0 0]
  fin : listed[7]? = some true → ∃ p q, v 6 = .pointer (some ⟨p, 0, none⟩) ∧ Blk W p 29 (cfV ⟨gk, some ⟨q, 0, none⟩, 65, 65⟩) ∧ Blk W q 60 cs
  ord : listed[7]? = some true → ∀ j, j < 7 → listed[j]? = some true
theorem InvK.step {X0 : World} {H k : Nat} {gk : Gl} {cs : Array Value} {listed : Array Bool} {v : Nat → Value} {W Y : World} (h : InvK X0 H k gk cs listed v W) {i : Nat} {u : Value} (hi : i < 7) (hli : listed[i]? = some false) (hb : Below W.heap.size W Y) (hp : PK H k gk i u)
    (h4 : i = 4 → ∃ q, u = .slice (some ⟨q, 0, none⟩) 65 65 ∧ Blk Y q 60 cs) (h5 : i = 5 → ∃ q, u = .agg #[.int .i64 gk.cap, .int .i64 gk.q, .int .i64 gk.ar, .int .i64 gk.ag, .int .u64 gk.sd, .int .i64 gk.t, .int .i64 gk.tau, .slice (some ⟨q, 0, none⟩) 65 65] ∧ Blk Y q 60 cs)
    (h6 : i = 6 → ∃ p, u = .pointer (some ⟨p, 0, none⟩) ∧ X0.heap.size ≤ p ∧ Blk Y p 29 #[.int .i64 0, .int .i64 0, .int .i64 0, .int .i64 0, .int .u64 0, .int .i64 0, .int .i64 0, .slice none 0 0]) : InvK X0 H k gk cs (listed.setIfInBounds i true) (updC v i u) Y := by
  have e7 : (listed.setIfInBounds i true)[7]? = listed[7]? := set_neK (by omega) _
  have n7 : listed[7]? ≠ some true := fun h7 => by
    rw [h.ord h7 i hi] at hli; cases hli
  have old : ∀ j, j ≠ i → updC v i u j = v j := fun j hj => if_neg hj
  have new : updC v i u i = u := if_pos rfl
  refine ⟨fun j hj => ?_, h.below.trans (hb.mono h.below.size), fun hj => ?_, fun hj => ?_, fun hj h7 => ?_, fun h7 => absurd (e7 ▸ h7) n7, fun h7 => absurd (e7 ▸ h7) n7⟩
  · by_cases e : j = i
    · subst e; rw [new]; exact hp
    · rw [old j e]
      rw [set_neK e] at hj
      exact h.all j hj
  · by_cases e : 4 = i
    · subst e; rw [new]; exact h4 rfl
    · rw [old 4 e]
      rw [set_neK e] at hj
      obtain ⟨q, h1, h2⟩ := h.mks hj
      exact ⟨q, h1, h2.below hb h2.lt⟩
  · by_cases e : 5 = i
    · subst e; rw [new]; exact h5 rfl
    · rw [old 5 e]
      rw [set_neK e] at hj
      obtain ⟨q, h1, h2⟩ := h.bd hj
      exact ⟨q, h1, h2.below hb h2.lt⟩
  · rw [e7] at h7
    by_cases e : 6 = i
    · subst e; rw [new]; exact h6 rfl
    · rw [old 6 e]
      rw [set_neK e] at hj
      obtain ⟨q, h1, h2, h3⟩ := h.al hj h7
      exact ⟨q, h1, h2, h3.below hb h3.lt⟩
theorem thereB {W : World} {b : Nat} {T : TypeId} {cs : Array Value} (h : Blk W b T cs) {n : Nat} (hn : n ≤ cs.size) : W.there b 0 n := fun j hj => ⟨by
  rw [h.cell, Array.getElem?_eq_getElem (show 0 + j < cs.size by omega)]; rfl, h.frozen _⟩
theorem cf_info : (Tryz.prog.info? 29).map (·.size) = some 8 := by kernel_rfl
theorem InvK.step7 {X0 : World} {H k : Nat} {gk : Gl} {cs : Array Value} {listed : Array Bool} {v : Nat → Value} {W : World} (h : InvK X0 H k gk cs listed v W) (hli : listed[7]? = some false) (hd : ∀ j, j < 7 → listed[j]? = some true) {p q : Nat} (h6 : v 6 = .pointer (some ⟨p, 0, none⟩)) (hp : X0.heap.size ≤ p) (hz : Blk W p 29 #[.int .i64 0, .int .i64 0, .int .i64 0, .int .i64 0, .int .u64 0, .int .i64 0, .int .i64 0, .slice none 0 0]) (hq : Blk W q 60 cs) : InvK X0 H k gk cs (listed.setIfInBounds 7 true) v (W.setCells p 0 [.int .i64 gk.cap, .int .i64 gk.q, .int .i64 gk.ar, .int .i64 gk.ag, .int .u64 gk.sd, .int .i64 gk.t, .int .i64 gk.tau, .slice (some ⟨q, 0, none⟩) 65 65]) := by
  have hne : q ≠ p := fun e => by
    subst e
    unfold Blk at hz hq
    rw [hz] at hq
    injection hq with hq
    injection hq with _ hq
    exact absurd hq (by decide)
  have keep : ∀ j, j < 7 → (listed.setIfInBounds 7 true)[j]? = some true := fun j hj => by rw [set_neK (by omega)]; exact hd j hj
  have hx : Blk (W.setCells p 0 [.int .i64 gk.cap, .int .i64 gk.q, .int .i64 gk.ar, .int .i64 gk.ag, .int .u64 gk.sd, .int .i64 gk.t, .int .i64 gk.tau, .slice (some ⟨q, 0, none⟩) 65 65]) p 29 (cfV ⟨gk, some ⟨q, 0, none⟩, 65, 65⟩) := blk8 hz rfl _ _ _ _ _ _ _ _
  obtain ⟨q4, k1, k2⟩ := h.mks (hd 4 (by decide))
  obtain ⟨q5, k3, k4⟩ := h.bd (hd 5 (by decide))
  have ne4 : ∀ {a : Nat}, Blk W a 60 cs → a ≠ p := fun ha e => by
    subst e
    unfold Blk at hz ha
    rw [hz] at ha
    injection ha with ha
    injection ha with _ ha
    exact absurd ha (by decide)
  refine ⟨fun j hj => ?_, below_setCells hp _ _ _ h.below, fun _ => ⟨q4, k1, Blk.farS (ne4 k2) _ _ _ k2⟩, fun _ => ⟨q5, k3, Blk.farS (ne4 k4) _ _ _ k4⟩, fun _ h7 => ?_, fun _ => ⟨p, q, h6, hx, Blk.farS hne _ _ _ hq⟩, fun _ => keep⟩
  · by_cases e : j = 7
    · subst e; trivial
    · rw [set_neK e] at hj
      exact h.all j hj
  · rw [set_eqK hli] at h7; cases h7
/-- The same where it is handed to a function at once. -/
def PL (_p10 : Nat) (i : Nat) (v : Value) : Prop := match i with
  | 0 => v = .agg #[.int .i64 1, .int .i64 1, .int .i64 0, .int .i64 1, .int .u64 18446744073709551615, .int .i64 1, .int .i64 68719476736]
  | 7 => v = .int .i64 12
  | 10 => v = .int .i64 12
  | _ => True
structure InvL (X0 : World) (cs : Array Value) (listed : Array Bool) (v : Nat → Value) (W : World) : Prop where
  all : ∀ i, listed[i]? = some true → PL 0 i (v i)
  below : Below X0.heap.size X0 W
  mks : listed[1]? = some true → ∃ q, v 1 = .slice (some ⟨q, 0, none⟩) 65 65 ∧ Blk W q 60 cs
  bd : listed[2]? = some true → ∃ q, v 2 = .agg #[.int .i64 1, .int .i64 1, .int .i64 0, .int .i64 1, .int .u64 18446744073709551615, .int .i64 1, .int .i64 68719476736, .slice (some ⟨q, 0, none⟩) 65 65] ∧ Blk W q 60 cs
  tp : listed[3]? = some true → ∃ a b, v 3 = .tuple #[.int .i64 a, b, .int .i64 12]
  tq : listed[4]? = some true → ∃ a b, v 4 = .tuple #[.int .i64 a, b, .int .i64 12]
theorem InvL.step {X0 : World} {cs : Array Value} {listed : Array Bool} {v : Nat → Value} {W Y : World} (h : InvL X0 cs listed v W) {i : Nat} {u : Value} (hb : Below W.heap.size W Y) (hp : PL 0 i u)
    (h1 : i = 1 → ∃ q, u = .slice (some ⟨q, 0, none⟩) 65 65 ∧ Blk Y q 60 cs) (h2 : i = 2 → ∃ q, u = .agg #[.int .i64 1, .int .i64 1, .int .i64 0, .int .i64 1, .int .u64 18446744073709551615, .int .i64 1, .int .i64 68719476736, .slice (some ⟨q, 0, none⟩) 65 65] ∧ Blk Y q 60 cs)
    (h3 : i = 3 → ∃ a b, u = .tuple #[.int .i64 a, b, .int .i64 12]) (h4 : i = 4 → ∃ a b, u = .tuple #[.int .i64 a, b, .int .i64 12]) : InvL X0 cs (listed.setIfInBounds i true) (updC v i u) Y := by
  have old : ∀ j, j ≠ i → updC v i u j = v j := fun j hj => if_neg hj
  have new : updC v i u i = u := if_pos rfl
  refine ⟨fun j hj => ?_, h.below.trans (hb.mono h.below.size), fun hj => ?_, fun hj => ?_, fun hj => ?_, fun hj => ?_⟩
  · by_cases e : j = i
    · subst e; rw [new]; exact hp
    · rw [old j e]
      rw [set_neK e] at hj
      exact h.all j hj
  · by_cases e : 1 = i
    · subst e; rw [new]; exact h1 rfl
    · rw [old 1 e]
      rw [set_neK e] at hj
      obtain ⟨q, k1, k2⟩ := h.mks hj
      exact ⟨q, k1, k2.below hb k2.lt⟩
  · by_cases e : 2 = i
    · subst e; rw [new]; exact h2 rfl
    · rw [old 2 e]
      rw [set_neK e] at hj
      obtain ⟨q, k1, k2⟩ := h.bd hj
      exact ⟨q, k1, k2.below hb k2.lt⟩
  · by_cases e : 3 = i
    · subst e; rw [new]; exact h3 rfl
    · rw [old 3 e]
      rw [set_neK e] at hj
      exact h.tp hj
  · by_cases e : 4 = i
    · subst e; rw [new]; exact h4 rfl
    · rw [old 4 e]
      rw [set_neK e] at hj
      exact h.tq hj
set_option maxRecDepth 20000 in
set_option maxHeartbeats 16000000 in
theorem lcknown_ok (w : World) (hT : SpTab w) (hTab : Tab w) : Calls Tryz.prog 3 #[] w fun e w' => e = .returned (.bool true) ∧ Below w.heap.size w w' := by
  have HT := Lib.hid (show ∀ W, Below w.heap.size w W → SpTab W ∧ Tab W from fun W hW => ⟨hT.below hW, tab_below hTab hW (tab_lt hTab)⟩)
  have CE := Lib.hid (fun W => exm_ok W)
  have CD := Lib.hid (fun g W (h : CArg W (exC g) exL) => cdue_ok (exC g) exL 0 W h)
  have CDB := Lib.hid (fun g W (h : CArg W (exC g) exL) => cdue_ok (exC g) exL (-1) W h)
  have CN := Lib.hid (fun g W (h : CArg W (exC g) exL) => cnext_ok (exC g) exL 70 W h)
  have CNB := Lib.hid (fun g W (h : CArg W (exC g) exL) => cnext_ok (exC g) exL 253402300800 W h)
  have CF := Lib.hid (fun g W (h : CArg W (exC g) exL) => cfind_ok (exC g) exL ⟨#[120]⟩ W rfl (show (3 : Nat) ≤ 200 by decide) h.in_.at_)
  have CCP := Lib.hid (fun g W (h : CArg W (exC g) exL) => ccopy_ok (exC g) exL W h.eqa h.n9)
  have CW := Lib.hid (fun W (hW : Below w.heap.size w W) => cwk_ok W (HT.out W hW).1 (HT.out W hW).2)
  have e1 : ∀ g t, cdE (exC g).g exL t = cdE exG exL t := fun _ _ => rfl
  have e2 : ∀ g t, cdV (exC g).g exL t = cdV exG exL t := fun _ _ => rfl
  have e3 : ∀ g, cnT (exC g).g exL 70 = 130 ∧ cnB (exC g).g exL 70 = true ∧ cnL (exC g).g exL 70 = [0] := fun g => by
    have h : cnS (exC g).g exL 70 = (some 130, [0]) := cnS_70
    unfold cnT cnB cnL
    rw [h]
    exact ⟨rfl, rfl, rfl⟩
  simp only [e1, e2, cdE_ex (show vT 70 = true from rfl), cdE_ex (show vT 0 = true from rfl), cdE_bad (show vT (-1) = false from rfl), cdE_bad (show vT 253402300800 = false from rfl), cdV_0, (e3 _).1, (e3 _).2.1, (e3 _).2.2, fd_x.1, fd_x.2, cfV_ex] at CD CDB CN CNB CF CE CCP
  clear hT hTab e1 e2 e3
  go_enter Tryz.func3, Tryz.ntmps3
  go_wp2_with fail
  refine (CE.out _).mono ?_
  rintro e w1 ⟨g, rfl, hg, hb⟩
  have ha := hb.alloc hb.size (.cells (cfV (exC g)) 29)
  have HI := Lib.hid (show WkC w w1.heap.size g (w1.alloc (.cells (cfV (exC g)) 29)) from ⟨Blk.new w1 _ _, ex_arg (hg.alloc _) (HT.out _ ha).1 (HT.out _ ha).2, ha⟩)
  rw [cfV_ex] at HI
  clear hg hb ha
  go_wp2_with fail
  refine (CN.out _ _ HI.out.arg).mono ?_
  rintro e w2 ⟨v, rfl, ho, hb⟩
  have HI := Lib.hid (WkC.next (X := w1.alloc _) HI.out hb)
  obtain ⟨a2, cap2, rfl, hi2⟩ := ho.shape
  have HD := Lib.hid hi2
  obtain ⟨c0, c1, c2, c3, c4, c5, c6, c7⟩ := HI.out.cells
  clear hb ho hi2
  go_wp2_with fail
  refine (CD.out _ _ HI.out.arg).mono ?_
  rintro e w3 ⟨v, rfl, ho, hb⟩
  have HI := Lib.hid (HI.out.next hb)
  have HD := Lib.hid (IntsAt.below HD.out hb)
  obtain ⟨a3, cap3, rfl, _⟩ := ho.shape
  clear hb ho c0 c1 c2 c3 c4 c5 c6 c7
  obtain ⟨c0, c1, c2, c3, c4, c5, c6, c7⟩ := HI.out.cells
  go_wp2_with fail
  refine (CF.out _ _ HI.out.arg).mono ?_
  rintro e w4 ⟨rfl, hb⟩
  have HI := Lib.hid (HI.out.next hb)
  have HD := Lib.hid (IntsAt.below HD.out hb)
  have SM := Lib.hid (fun b m W (ha : IntsAt W a2 [0]) (h2 : IntsAt W b [0]) => ints16 a2 b [0] 1 cap2 m rfl (by decide) W ha h2)
  clear hb c0 c1 c2 c3 c4 c5 c6 c7
  obtain ⟨c0, c1, c2, c3, c4, c5, c6, c7⟩ := HI.out.cells
  go_wp2_with fail
  refine (SM.out _ _ _ (IntsAt.below HD.out ((Below.refl _ _).alloc (Nat.le_refl _) _)) (ints_one1 _ _)).mono ?_
  rintro e w6 ⟨rfl, hb⟩
  have ha := (Below.refl w4.heap.size w4).alloc (Nat.le_refl _) (.cells #[.int .i64 0] 3)
  have HI := Lib.hid (HI.out.next (ha.trans (hb.mono ha.size)))
  clear hb ha c0 c1 c2 c3 c4 c5 c6 c7 SM HD CN CD CF
  obtain ⟨c0, c1, c2, c3, c4, c5, c6, c7⟩ := HI.out.cells
  go_upto_block 0 with fail
  have HB0 : Hid (KnB w6 ((w6.alloc (.cells #[.int .i64 2, .int .i64 10, .int .i64 10, .int .i64 60, .int .u64 0, .int .i64 0, .int .i64 0] 26)).alloc (.cells #[.int .i64 1001, .int .i64 10, .int .i64 10, .int .i64 60, .int .u64 0, .int .i64 0, .int .i64 0, .int .i64 (-1), .int .i64 10, .int .i64 10, .int .i64 60, .int .u64 0, .int .i64 0, .int .i64 0, .int .i64 2, .int .i64 0, .int .i64 10, .int .i64 60, .int .u64 0, .int .i64 0, .int .i64 0, .int .i64 2, .int .i64 10, .int .i64 (-1), .int .i64 60, .int .u64 0, .int .i64 0, .int .i64 0, .int .i64 2, .int .i64 10, .int .i64 4097, .int .i64 60, .int .u64 0, .int .i64 0, .int .i64 0, .int .i64 2, .int .i64 10, .int .i64 10, .int .i64 0, .int .u64 0, .int .i64 0, .int .i64 0, .int .i64 2, .int .i64 10, .int .i64 10, .int .i64 68719476737, .int .u64 0, .int .i64 0, .int .i64 0, .int .i64 2, .int .i64 10, .int .i64 10, .int .i64 60, .int .u64 0, .int .i64 (-1), .int .i64 0, .int .i64 2, .int .i64 10, .int .i64 10, .int .i64 60, .int .u64 0, .int .i64 1, .int .i64 68719476737] 26))) := Lib.hid ⟨((Below.refl _ _).alloc (Nat.le_refl _) _).alloc (by simp) _, (Blk.new _ _ _).alloc _, Blk.newAt (by simp)⟩
  have HMJ : Hid (∀ W, (Instr.makeSlice 27 (.int .i64 65) (.int .i64 65)).run Tryz.prog W = .ok (.slice (some ⟨W.heap.size, 0, none⟩) 65 65) (W.alloc (.cells (madeCells (Value.agg zJ).cells (65 * 30)) 60))) := Lib.hid mk_jobs
  have HJ65 := Lib.hid (fun (W : World) (E : Nat) (h : Blk W E 60 (madeCells (Value.agg zJ).cells (65 * 30))) => jobs_65 h)
  generalize madeCells (Value.agg zJ).cells (65 * 30) = cs at *
  go_wp2_with fail
  go_loopw [12, 13] (fun s12 _ wr => ∃ k : Nat, k ≤ 9 ∧ s12 = .int .i64 k ∧ KnB w6 wr) (fun s12 _ _ => 9 - intJ s12)
  case atStart => exact ⟨0, by decide, rfl, HB0.out⟩
  case round =>
    clear HB0 c0 c1 c2 c3 c4 c5 c6 c7
    obtain ⟨k, hk, rfl, hI⟩ := hrel
    have HK := Lib.hid hI
    rcases Nat.lt_or_ge k 9 with hlt | hge
    · skip
      have hkl : k < wrG.length := hlt
      have hcl : ∀ j, j < 7 → wr.cell? ⟨w6.heap.size + 1, k * 7 + j, none⟩ = (glV wrG[k])[j]? := fun j hj => by rw [hI.wr.cell]; exact wrC_at k hkl j hj
      have HBAD := Lib.hid (wrG_bad k hkl)
      have HCL := Lib.hid (fun (W : World) (h : KnB w6 W) j (hj : j < 7) => (by rw [h.wr.cell]; exact wrC_at k hkl j hj : W.cell? ⟨w6.heap.size + 1, k * 7 + j, none⟩ = (glV wrG[k])[j]?))
      have HSD : Hid (wrG[k].sd < 18446744073709551616) := Lib.hid (by
        have h : (wrG.all fun g => decide (g.sd < 18446744073709551616)) = true := by decide +kernel
        exact of_decide_eq_true (List.all_eq_true.1 h _ (List.getElem_mem hkl)))
      generalize wrG[k] = gk at *
      have CG := Lib.hid (fun W => glob_ok gk W)
      have CK := Lib.hid (fun q W (h : CArg W ⟨gk, some ⟨q, 0, none⟩, 65, 65⟩ z65) => ccheck_ok ⟨gk, some ⟨q, 0, none⟩, 65, 65⟩ z65 W h)
      rw [HBAD.out, show glV gk = #[.int .i64 gk.cap, .int .i64 gk.q, .int .i64 gk.ar, .int .i64 gk.ag, .int .u64 gk.sd, .int .i64 gk.t, .int .i64 gk.tau] from rfl] at CG
      simp only [cfE_bad65 HBAD.out, cfV_eq] at CK
      have r0 : wr.cell? ⟨w6.heap.size + 1, k * 7, none⟩ = some (.int .i64 gk.cap) := hcl 0 (by decide)
      have r1 : wr.cell? ⟨w6.heap.size + 1, k * 7 + 1, none⟩ = some (.int .i64 gk.q) := hcl 1 (by decide)
      have r2 : wr.cell? ⟨w6.heap.size + 1, k * 7 + 2, none⟩ = some (.int .i64 gk.ar) := hcl 2 (by decide)
      have r3 : wr.cell? ⟨w6.heap.size + 1, k * 7 + 3, none⟩ = some (.int .i64 gk.ag) := hcl 3 (by decide)
      have r4 : wr.cell? ⟨w6.heap.size + 1, k * 7 + 4, none⟩ = some (.int .u64 gk.sd) := hcl 4 (by decide)
      have r5 : wr.cell? ⟨w6.heap.size + 1, k * 7 + 5, none⟩ = some (.int .i64 gk.t) := hcl 5 (by decide)
      have r6 : wr.cell? ⟨w6.heap.size + 1, k * 7 + 6, none⟩ = some (.int .i64 gk.tau) := hcl 6 (by decide)
      have hmk := HMJ.out
      have p1 : decide (k < 9) = true := decide_eq_true hlt
      have p2 : decide ((k : Int) < 9) = true := decide_eq_true (by omega)
      have HLT := Lib.hid hlt
      have hkb : (k : Int) < 9 := by omega
      clear hkl hcl hI
      go_upto_region 21 with fail
      clear r0 r1 r2 r3 r4 r5 r6 hmk
      refine wp_region_inv (I := fun listed a wx => ∃ v : Nat → Value, a = ⟨#[u0, .pointer (some ⟨w1.heap.size, 0, none⟩), .int .i64 130, .slice a2 1 cap2, .bool true, .int .i64 0, .slice a3 0 cap3, .int .i64 0, .int .i64 0, .bool false, .pointer (some ⟨w6.heap.size, 0, none⟩), .slice (some ⟨w6.heap.size + 1, 0, none⟩) 9 9, .int .i64 ↑k, v 6, undef, undef, undef, undef, undef, undef, undef, undef, undef, undef, undef, undef, undef, undef, undef, undef, undef, undef, .agg #[.int .i64 2, .int .i64 10, .int .i64 10, .int .i64 60, .int .u64 0, .int .i64 0, .int .i64 0, .slice (some ⟨g, 0, none⟩) 3 3], .tuple #[.int .i64 130, .slice a2 1 cap2, .bool true, .int .i64 0], .agg #[.int .i64 2, .int .i64 10, .int .i64 10, .int .i64 60, .int .u64 0, .int .i64 0, .int .i64 0, .slice (some ⟨g, 0, none⟩) 3 3], .tuple #[.int .i64 130, .slice a2 1 cap2, .bool true, .int .i64 0], .int .i64 130, .slice a2 1 cap2, .bool true, .int .i64 0, .tuple #[.slice a3 0 cap3, .int .i64 0], .agg #[.int .i64 2, .int .i64 10, .int .i64 10, .int .i64 60, .int .u64 0, .int .i64 0, .int .i64 0, .slice (some ⟨g, 0, none⟩) 3 3], .tuple #[.slice a3 0 cap3, .int .i64 0], .slice a3 0 cap3, .int .i64 0, .tuple #[.int .i64 0, .bool false], .agg #[.int .i64 2, .int .i64 10, .int .i64 10, .int .i64 60, .int .u64 0, .int .i64 0, .int .i64 0, .slice (some ⟨g, 0, none⟩) 3 3], .tuple #[.int .i64 0, .bool false], .int .i64 0, .bool false, .int .i64 0, .bool false, .bool false, .int .i64 130, .bool false, .bool false, .bool false, .bool true, .bool false, .bool false, .bool false, .slice a2 1 cap2, .slice (some ⟨w4.heap.size, 0, none⟩) 1 1, .bool true, .bool false, .bool false, .bool false, .int .i64 0, .bool false, .bool false, .bool false, .slice a3 0 cap3, .int .i64 0, .bool false, .bool false, .bool false, .bool false, .bool false, .pointer (some ⟨w1.heap.size, 0, none⟩), .agg #[.int .i64 2, .int .i64 10, .int .i64 10, .int .i64 60, .int .u64 0, .int .i64 0, .int .i64 0], .agg #[.int .i64 2, .int .i64 10, .int .i64 10, .int .i64 60, .int .u64 0, .int .i64 0, .int .i64 0], .agg #[.int .i64 2, .int .i64 10, .int .i64 10, .int .i64 60, .int .u64 0, .int .i64 0, .int .i64 0], .agg #[.int .i64 2, .int .i64 10, .int .i64 10, .int .i64 60, .int .u64 0, .int .i64 0, .int .i64 0], .agg #[.int .i64 2, .int .i64 10, .int .i64 10, .int .i64 60, .int .u64 0, .int .i64 0, .int .i64 0], .agg #[.int .i64 2, .int .i64 10, .int .i64 10, .int .i64 60, .int .u64 0, .int .i64 0, .int .i64 0], .agg #[.int .i64 2, .int .i64 10, .int .i64 10, .int .i64 60, .int .u64 0, .int .i64 0, .int .i64 0], .agg #[.int .i64 2, .int .i64 10, .int .i64 10, .int .i64 60, .int .u64 0, .int .i64 0, .int .i64 0], .agg #[.int .i64 2, .int .i64 10, .int .i64 10, .int .i64 60, .int .u64 0, .int .i64 0, .int .i64 0], .agg #[.int .i64 2, .int .i64 10, .int .i64 10, .int .i64 60, .int .u64 0, .int .i64 0, .int .i64 0], .slice (some ⟨w6.heap.size + 1, 0, none⟩) 9 9, .slice (some ⟨w6.heap.size + 1, 0, none⟩) 9 9, .pointer (some ⟨w6.heap.size + 1, 0, none⟩), .pointer (some ⟨w6.heap.size + 1, 0, none⟩), .slice (some ⟨w6.heap.size + 1, 0, none⟩) 9 9, .pointer (some ⟨w6.heap.size + 1, 7, none⟩), .pointer (some ⟨w6.heap.size + 1, 7, none⟩), .slice (some ⟨w6.heap.size + 1, 0, none⟩) 9 9, .pointer (some ⟨w6.heap.size + 1, 14, none⟩), .pointer (some ⟨w6.heap.size + 1, 15, none⟩), .slice (some ⟨w6.heap.size + 1, 0, none⟩) 9 9, .pointer (some ⟨w6.heap.size + 1, 21, none⟩), .pointer (some ⟨w6.heap.size + 1, 23, none⟩), .slice (some ⟨w6.heap.size + 1, 0, none⟩) 9 9, .pointer (some ⟨w6.heap.size + 1, 28, none⟩), .pointer (some ⟨w6.heap.size + 1, 30, none⟩), .slice (some ⟨w6.heap.size + 1, 0, none⟩) 9 9, .pointer (some ⟨w6.heap.size + 1, 35, none⟩), .pointer (some ⟨w6.heap.size + 1, 38, none⟩), .slice (some ⟨w6.heap.size + 1, 0, none⟩) 9 9, .pointer (some ⟨w6.heap.size + 1, 42, none⟩), .pointer (some ⟨w6.heap.size + 1, 45, none⟩), .slice (some ⟨w6.heap.size + 1, 0, none⟩) 9 9, .pointer (some ⟨w6.heap.size + 1, 49, none⟩), .pointer (some ⟨w6.heap.size + 1, 54, none⟩), .pointer (some ⟨w6.heap.size + 1, 54, none⟩), .slice (some ⟨w6.heap.size + 1, 0, none⟩) 9 9, .agg #[.int .i64 1, .int .i64 68719476737], .pointer (some ⟨w6.heap.size + 1, 56, none⟩), .pointer (some ⟨w6.heap.size + 1, 61, none⟩), .int .i64 ↑k, .slice (some ⟨w6.heap.size + 1, 0, none⟩) 9 9, .int .i64 9, .bool true, u123, u124, v 0, v 1, v 2, v 3, v 4, v 5, u131, u132, u133, u134, u135, u136, u137, u138, u139, u140, u141, undef, undef, undef, undef, undef, undef, undef, undef, undef, undef, undef, undef, undef, undef, undef, undef, undef, undef, undef, undef, undef, undef, undef, undef, undef, undef, undef, undef, undef, undef, undef, undef, undef, undef, undef, undef, undef, undef, undef, undef, undef, undef, undef, undef, undef, undef, undef, undef, undef, undef, undef, undef, undef, undef, undef, undef, undef, undef, undef, undef, undef, undef, undef, undef, undef, undef, undef, undef, undef, undef, undef, undef, undef, undef, undef, undef, undef, undef, undef, undef, undef, undef, undef, undef, undef, undef, undef, undef, undef, undef, undef, undef, undef], []⟩ ∧ InvK wr (w6.heap.size + 1) k gk cs listed v wx) (by kernel_rfl) ?_ ?_ ?_
      · refine ⟨fun i => match i with | 0 => u125 | 1 => u126 | 2 => u127 | 3 => u128 | 4 => u129 | 5 => u130 | 6 => u13 | _ => undef, rfl, ⟨fun i hi => ?_, below_drewN (Below.refl _ _) 1, fun hi => ?_, fun hi => ?_, fun hi => ?_, fun hi => ?_, fun hi => ?_⟩⟩
        all_goals
          exfalso
          rw [Array.getElem?_replicate] at hi
          split at hi <;> simp at hi
      · rintro listed a wx i o hsz ho hli ha ⟨v, rfl, hI⟩
        have HV := Lib.hid hI
        have hi : i < 8 := (List.getElem?_eq_some_iff.1 ho).1
        clear hI hsz
        obtain rfl | rfl | rfl | rfl | rfl | rfl | rfl | rfl : i = 0 ∨ i = 1 ∨ i = 2 ∨ i = 3 ∨ i = 4 ∨ i = 5 ∨ i = 6 ∨ i = 7 := by omega
        · -- operation 0
          cases ho
          refine wpOp_step rfl (fun K hK => ?_)
          go_simp
          exact hK _ _ ⟨updC v 0 _, rfl, HV.out.step (by decide) hli (Below.refl _ _) rfl (fun h => absurd h (by decide)) (fun h => absurd h (by decide)) (fun h => absurd h (by decide))⟩
        · -- operation 1
          cases ho
          refine wpOp_step rfl (fun K hK => ?_)
          go_simp
          exact hK _ _ ⟨updC v 1 _, rfl, HV.out.step (by decide) hli (Below.refl _ _) rfl (fun h => absurd h (by decide)) (fun h => absurd h (by decide)) (fun h => absurd h (by decide))⟩
        · -- operation 2
          cases ho
          have h0 := HV.out.all 0 (dep_listed ha 0 (by kernel_rfl))
          replace h0 : v 0 = _ := h0
          have h1 := HV.out.all 1 (dep_listed ha 1 (by kernel_rfl))
          replace h1 : v 1 = _ := h1
          refine wpOp_step rfl (fun K hK => ?_)
          go_simp
          exact hK _ _ ⟨updC v 2 _, by simp [updC, h0, h1], HV.out.step (by decide) hli (Below.refl _ _) rfl (fun h => absurd h (by decide)) (fun h => absurd h (by decide)) (fun h => absurd h (by decide))⟩
        · -- operation 3
          cases ho
          have h2 := HV.out.all 2 (dep_listed ha 2 (by kernel_rfl))
          replace h2 : v 2 = _ := h2
          have hcl := HCL.out wx (HK.out.next HV.out.below)
          have r0 : wx.cell? ⟨w6.heap.size + 1, k * 7, none⟩ = some (.int .i64 gk.cap) := hcl 0 (by decide)
          have r1 : wx.cell? ⟨w6.heap.size + 1, k * 7 + 1, none⟩ = some (.int .i64 gk.q) := hcl 1 (by decide)
          have r2 : wx.cell? ⟨w6.heap.size + 1, k * 7 + 2, none⟩ = some (.int .i64 gk.ar) := hcl 2 (by decide)
          have r3 : wx.cell? ⟨w6.heap.size + 1, k * 7 + 3, none⟩ = some (.int .i64 gk.ag) := hcl 3 (by decide)
          have r4 : wx.cell? ⟨w6.heap.size + 1, k * 7 + 4, none⟩ = some (.int .u64 gk.sd) := hcl 4 (by decide)
          have r5 : wx.cell? ⟨w6.heap.size + 1, k * 7 + 5, none⟩ = some (.int .i64 gk.t) := hcl 5 (by decide)
          have r6 : wx.cell? ⟨w6.heap.size + 1, k * 7 + 6, none⟩ = some (.int .i64 gk.tau) := hcl 6 (by decide)
          clear hcl
          refine wpOp_step rfl (fun K hK => ?_)
          go_simp
          exact hK _ _ ⟨updC v 3 _, by simp [updC, h2], HV.out.step (by decide) hli (Below.refl _ _) rfl (fun h => absurd h (by decide)) (fun h => absurd h (by decide)) (fun h => absurd h (by decide))⟩
        · -- operation 4
          cases ho
          have hmk := HMJ.out
          refine wpOp_step rfl (fun K hK => ?_)
          go_simp
          exact hK _ _ ⟨updC v 4 _, rfl, HV.out.step (by decide) hli ((Below.refl _ _).alloc (Nat.le_refl _) _) trivial (fun _ => ⟨_, rfl, Blk.new wx _ _⟩) (fun h => absurd h (by decide)) (fun h => absurd h (by decide))⟩
        · -- operation 5
          cases ho
          have h3 := HV.out.all 3 (dep_listed ha 3 (by kernel_rfl))
          replace h3 : v 3 = _ := h3
          obtain ⟨q, h4, hq⟩ := HV.out.mks (dep_listed ha 4 (by kernel_rfl))
          refine wpOp_step rfl (fun K hK => ?_)
          go_simp
          exact hK _ _ ⟨updC v 5 _, by simp [updC, h3, h4], HV.out.step (by decide) hli (Below.refl _ _) trivial (fun h => absurd h (by decide)) (fun _ => ⟨q, rfl, hq⟩) (fun h => absurd h (by decide))⟩
        · -- operation 6
          cases ho
          have hsz := HV.out.below.size
          refine wpOp_step rfl (fun K hK => ?_)
          go_simp
          exact hK _ _ ⟨updC v 6 _, rfl, HV.out.step (by decide) hli ((Below.refl _ _).alloc (Nat.le_refl _) _) trivial (fun h => absurd h (by decide)) (fun h => absurd h (by decide)) (fun _ => ⟨_, rfl, hsz, Blk.new wx _ _⟩)⟩
        · -- operation 7
          cases ho
          have hdep : ∀ j, j < 7 → listed[j]? = some true := fun j hj => by
            obtain rfl | rfl | rfl | rfl | rfl | rfl | rfl : j = 0 ∨ j = 1 ∨ j = 2 ∨ j = 3 ∨ j = 4 ∨ j = 5 ∨ j = 6 := by omega
            all_goals exact dep_listed ha _ (by kernel_rfl)
          obtain ⟨q, h5, hq⟩ := HV.out.bd (hdep 5 (by decide))
          obtain ⟨p, h6, hp, hz⟩ := HV.out.al (hdep 6 (by decide)) hli
          refine wpOp_step rfl (fun K hK => ?_)
          refine wp_store_mid _ _ _ rfl p 0 #[.int .i64 gk.cap, .int .i64 gk.q, .int .i64 gk.ar, .int .i64 gk.ag, .int .u64 gk.sd, .int .i64 gk.t, .int .i64 gk.tau, .slice (some ⟨q, 0, none⟩) 65 65] h6 h5 (thereB hz (show (8 : Nat) ≤ 8 from Nat.le_refl 8)) cf_info (by simp [Value.oneCell']) ?_
          exact hK _ _ ⟨v, rfl, HV.out.step7 hli hdep h6 hp hz hq⟩
      · rintro listed a wc hsz hr ⟨v, rfl, hI⟩
        obtain ⟨p, q, h6, hx, hq⟩ := hI.fin (all_listedC hsz (by kernel_rfl) hr 7 (by decide))
        have hb := hI.below
        have hj := HJ65.out _ _ hq
        rw [h6]
        clear h6 hI hr hsz hq
        generalize v 0 = v0 at *
        generalize v 1 = v1 at *
        generalize v 2 = v2 at *
        generalize v 3 = v3 at *
        generalize v 4 = v4 at *
        generalize v 5 = v5 at *
        have HKC := Lib.hid (HK.out.next hb)
        have HX := Lib.hid hx
        have HJ := Lib.hid hj
        have hcl := HCL.out _ HKC.out
        clear hb hx hj
        have r0 : wc.cell? ⟨w6.heap.size + 1, k * 7, none⟩ = some (.int .i64 gk.cap) := hcl 0 (by decide)
        have r1 : wc.cell? ⟨w6.heap.size + 1, k * 7 + 1, none⟩ = some (.int .i64 gk.q) := hcl 1 (by decide)
        have r2 : wc.cell? ⟨w6.heap.size + 1, k * 7 + 2, none⟩ = some (.int .i64 gk.ar) := hcl 2 (by decide)
        have r3 : wc.cell? ⟨w6.heap.size + 1, k * 7 + 3, none⟩ = some (.int .i64 gk.ag) := hcl 3 (by decide)
        have r4 : wc.cell? ⟨w6.heap.size + 1, k * 7 + 4, none⟩ = some (.int .u64 gk.sd) := hcl 4 (by decide)
        have r5 : wc.cell? ⟨w6.heap.size + 1, k * 7 + 5, none⟩ = some (.int .i64 gk.t) := hcl 5 (by decide)
        have r6 : wc.cell? ⟨w6.heap.size + 1, k * 7 + 6, none⟩ = some (.int .i64 gk.tau) := hcl 6 (by decide)
        clear hcl
        go_wp2_with fail
        refine (CG.out _).mono ?_
        rintro e w11 ⟨rfl, hb⟩
        have HK11 := Lib.hid (HKC.out.next hb)
        have HX11 := Lib.hid (HX.out.below hb HX.out.lt)
        have HA11 := Lib.hid (arg_65 gk HSD.out (HJ.out.below hb) (HT.out _ (HI.out.below.trans (HK11.out.below.mono HI.out.below.size))).1 (HT.out _ (HI.out.below.trans (HK11.out.below.mono HI.out.below.size))).2)
        clear hb r0 r1 r2 r3 r4 r5 r6
        have e0 : w11.cell? ⟨p, 0, none⟩ = some (.int .i64 gk.cap) := HX11.out.cell 0
        have e1 : w11.cell? ⟨p, 1, none⟩ = some (.int .i64 gk.q) := HX11.out.cell 1
        have e2 : w11.cell? ⟨p, 2, none⟩ = some (.int .i64 gk.ar) := HX11.out.cell 2
        have e3 : w11.cell? ⟨p, 3, none⟩ = some (.int .i64 gk.ag) := HX11.out.cell 3
        have e4 : w11.cell? ⟨p, 4, none⟩ = some (.int .u64 gk.sd) := HX11.out.cell 4
        have e5 : w11.cell? ⟨p, 5, none⟩ = some (.int .i64 gk.t) := HX11.out.cell 5
        have e6 : w11.cell? ⟨p, 6, none⟩ = some (.int .i64 gk.tau) := HX11.out.cell 6
        have e7 : w11.cell? ⟨p, 7, none⟩ = some (.slice (some ⟨q, 0, none⟩) 65 65) := HX11.out.cell 7
        have q16 : eB false = 16 := rfl
        rw [q16]
        clear q16
        go_wp2_with fail
        refine (CK.out _ _ HA11.out).mono ?_
        rintro e w12 ⟨rfl, hb⟩
        have HK12 := Lib.hid (HK11.out.next hb)
        clear hb e0 e1 e2 e3 e4 e5 e6 e7
        go_wp2_with fail
        have hlt := HLT.out
        refine ⟨⟨k + 1, by omega, by go_num, HK12.out⟩, ?_⟩
        simp [intJ]; omega
    · skip
      obtain rfl : k = 9 := by omega
      have d0 : wr.cell? ⟨w6.heap.size, 0, none⟩ = some (.int .i64 2) := hI.g.cell 0
      have fd0 : wr.frozen? ⟨w6.heap.size, 0, none⟩ = false := hI.g.frozen 0
      have d1 : wr.cell? ⟨w6.heap.size, 1, none⟩ = some (.int .i64 10) := hI.g.cell 1
      have fd1 : wr.frozen? ⟨w6.heap.size, 1, none⟩ = false := hI.g.frozen 1
      have d2 : wr.cell? ⟨w6.heap.size, 2, none⟩ = some (.int .i64 10) := hI.g.cell 2
      have fd2 : wr.frozen? ⟨w6.heap.size, 2, none⟩ = false := hI.g.frozen 2
      have d3 : wr.cell? ⟨w6.heap.size, 3, none⟩ = some (.int .i64 60) := hI.g.cell 3
      have fd3 : wr.frozen? ⟨w6.heap.size, 3, none⟩ = false := hI.g.frozen 3
      have d4 : wr.cell? ⟨w6.heap.size, 4, none⟩ = some (.int .u64 0) := hI.g.cell 4
      have fd4 : wr.frozen? ⟨w6.heap.size, 4, none⟩ = false := hI.g.frozen 4
      have d5 : wr.cell? ⟨w6.heap.size, 5, none⟩ = some (.int .i64 0) := hI.g.cell 5
      have fd5 : wr.frozen? ⟨w6.heap.size, 5, none⟩ = false := hI.g.frozen 5
      have d6 : wr.cell? ⟨w6.heap.size, 6, none⟩ = some (.int .i64 0) := hI.g.cell 6
      have fd6 : wr.frozen? ⟨w6.heap.size, 6, none⟩ = false := hI.g.frozen 6
      clear hI hge hk
      go_upto_region 25 with fail
      obtain ⟨W10, hW10⟩ : ∃ W10, W10 = ((((((((((((((wr).setCell ⟨w6.heap.size, 0, none⟩ (.int .i64 1))).setCell ⟨w6.heap.size, 1, none⟩ (.int .i64 1))).setCell ⟨w6.heap.size, 2, none⟩ (.int .i64 0))).setCell ⟨w6.heap.size, 3, none⟩ (.int .i64 1))).setCell ⟨w6.heap.size, 4, none⟩ (.int .u64 18446744073709551615))).setCell ⟨w6.heap.size, 5, none⟩ (.int .i64 1))).setCell ⟨w6.heap.size, 6, none⟩ (.int .i64 68719476736)) := ⟨_, rfl⟩
      have HG10 : Hid (Blk W10 w6.heap.size 26 #[.int .i64 1, .int .i64 1, .int .i64 0, .int .i64 1, .int .u64 18446744073709551615, .int .i64 1, .int .i64 68719476736]) := Lib.hid (by
        rw [hW10]
        have := ((((((HK.out.g.set_ 0 (.int .i64 1)).set_ 1 (.int .i64 1)).set_ 2 (.int .i64 0)).set_ 3 (.int .i64 1)).set_ 4 (.int .u64 18446744073709551615)).set_ 5 (.int .i64 1)).set_ 6 (.int .i64 68719476736)
        simpa using this)
      have HB10 : Hid (Below w6.heap.size w6 W10) := Lib.hid (by
        rw [hW10]
        exact ((((((HK.out.below.setCell (Nat.le_refl _) _).setCell (Nat.le_refl _) _).setCell (Nat.le_refl _) _).setCell (Nat.le_refl _) _).setCell (Nat.le_refl _) _).setCell (Nat.le_refl _) _).setCell (Nat.le_refl _) _)
      have HI10 := Lib.hid (HI.out.below.trans (HB10.out.mono HI.out.below.size))
      have CC := Lib.hid (fun q W (h : CArg W ⟨kG, some ⟨q, 0, none⟩, 65, 65⟩ z65) => ccaps_ok ⟨kG, some ⟨q, 0, none⟩, 65, 65⟩ z65 W h)
      simp only [cfE_many65, cfV_eq] at CC
      rw [← hW10]
      clear hW10 d0 fd0 d1 fd1 d2 fd2 d3 fd3 d4 fd4 d5 fd5 d6 fd6
      refine wp_region_inv (I := fun listed a wx => ∃ v : Nat → Value, a = ⟨#[u0, .pointer (some ⟨w1.heap.size, 0, none⟩), .int .i64 130, .slice a2 1 cap2, .bool true, .int .i64 0, .slice a3 0 cap3, .int .i64 0, .int .i64 0, .bool false, .pointer (some ⟨w6.heap.size, 0, none⟩), .slice (some ⟨w6.heap.size + 1, 0, none⟩) 9 9, .int .i64 ((9 : Nat) : Int), u13, v 8, v 9, v 10, undef, undef, undef, undef, undef, undef, undef, undef, undef, undef, undef, undef, undef, undef, undef, .agg #[.int .i64 2, .int .i64 10, .int .i64 10, .int .i64 60, .int .u64 0, .int .i64 0, .int .i64 0, .slice (some ⟨g, 0, none⟩) 3 3], .tuple #[.int .i64 130, .slice a2 1 cap2, .bool true, .int .i64 0], .agg #[.int .i64 2, .int .i64 10, .int .i64 10, .int .i64 60, .int .u64 0, .int .i64 0, .int .i64 0, .slice (some ⟨g, 0, none⟩) 3 3], .tuple #[.int .i64 130, .slice a2 1 cap2, .bool true, .int .i64 0], .int .i64 130, .slice a2 1 cap2, .bool true, .int .i64 0, .tuple #[.slice a3 0 cap3, .int .i64 0], .agg #[.int .i64 2, .int .i64 10, .int .i64 10, .int .i64 60, .int .u64 0, .int .i64 0, .int .i64 0, .slice (some ⟨g, 0, none⟩) 3 3], .tuple #[.slice a3 0 cap3, .int .i64 0], .slice a3 0 cap3, .int .i64 0, .tuple #[.int .i64 0, .bool false], .agg #[.int .i64 2, .int .i64 10, .int .i64 10, .int .i64 60, .int .u64 0, .int .i64 0, .int .i64 0, .slice (some ⟨g, 0, none⟩) 3 3], .tuple #[.int .i64 0, .bool false], .int .i64 0, .bool false, .int .i64 0, .bool false, .bool false, .int .i64 130, .bool false, .bool false, .bool false, .bool true, .bool false, .bool false, .bool false, .slice a2 1 cap2, .slice (some ⟨w4.heap.size, 0, none⟩) 1 1, .bool true, .bool false, .bool false, .bool false, .int .i64 0, .bool false, .bool false, .bool false, .slice a3 0 cap3, .int .i64 0, .bool false, .bool false, .bool false, .bool false, .bool false, .pointer (some ⟨w1.heap.size, 0, none⟩), .agg #[.int .i64 2, .int .i64 10, .int .i64 10, .int .i64 60, .int .u64 0, .int .i64 0, .int .i64 0], .agg #[.int .i64 2, .int .i64 10, .int .i64 10, .int .i64 60, .int .u64 0, .int .i64 0, .int .i64 0], .agg #[.int .i64 2, .int .i64 10, .int .i64 10, .int .i64 60, .int .u64 0, .int .i64 0, .int .i64 0], .agg #[.int .i64 2, .int .i64 10, .int .i64 10, .int .i64 60, .int .u64 0, .int .i64 0, .int .i64 0], .agg #[.int .i64 2, .int .i64 10, .int .i64 10, .int .i64 60, .int .u64 0, .int .i64 0, .int .i64 0], .agg #[.int .i64 2, .int .i64 10, .int .i64 10, .int .i64 60, .int .u64 0, .int .i64 0, .int .i64 0], .agg #[.int .i64 2, .int .i64 10, .int .i64 10, .int .i64 60, .int .u64 0, .int .i64 0, .int .i64 0], .agg #[.int .i64 2, .int .i64 10, .int .i64 10, .int .i64 60, .int .u64 0, .int .i64 0, .int .i64 0], .agg #[.int .i64 2, .int .i64 10, .int .i64 10, .int .i64 60, .int .u64 0, .int .i64 0, .int .i64 0], .agg #[.int .i64 2, .int .i64 10, .int .i64 10, .int .i64 60, .int .u64 0, .int .i64 0, .int .i64 0], .slice (some ⟨w6.heap.size + 1, 0, none⟩) 9 9, .slice (some ⟨w6.heap.size + 1, 0, none⟩) 9 9, .pointer (some ⟨w6.heap.size + 1, 0, none⟩), .pointer (some ⟨w6.heap.size + 1, 0, none⟩), .slice (some ⟨w6.heap.size + 1, 0, none⟩) 9 9, .pointer (some ⟨w6.heap.size + 1, 7, none⟩), .pointer (some ⟨w6.heap.size + 1, 7, none⟩), .slice (some ⟨w6.heap.size + 1, 0, none⟩) 9 9, .pointer (some ⟨w6.heap.size + 1, 14, none⟩), .pointer (some ⟨w6.heap.size + 1, 15, none⟩), .slice (some ⟨w6.heap.size + 1, 0, none⟩) 9 9, .pointer (some ⟨w6.heap.size + 1, 21, none⟩), .pointer (some ⟨w6.heap.size + 1, 23, none⟩), .slice (some ⟨w6.heap.size + 1, 0, none⟩) 9 9, .pointer (some ⟨w6.heap.size + 1, 28, none⟩), .pointer (some ⟨w6.heap.size + 1, 30, none⟩), .slice (some ⟨w6.heap.size + 1, 0, none⟩) 9 9, .pointer (some ⟨w6.heap.size + 1, 35, none⟩), .pointer (some ⟨w6.heap.size + 1, 38, none⟩), .slice (some ⟨w6.heap.size + 1, 0, none⟩) 9 9, .pointer (some ⟨w6.heap.size + 1, 42, none⟩), .pointer (some ⟨w6.heap.size + 1, 45, none⟩), .slice (some ⟨w6.heap.size + 1, 0, none⟩) 9 9, .pointer (some ⟨w6.heap.size + 1, 49, none⟩), .pointer (some ⟨w6.heap.size + 1, 54, none⟩), .pointer (some ⟨w6.heap.size + 1, 54, none⟩), .slice (some ⟨w6.heap.size + 1, 0, none⟩) 9 9, .agg #[.int .i64 1, .int .i64 68719476737], .pointer (some ⟨w6.heap.size + 1, 56, none⟩), .pointer (some ⟨w6.heap.size + 1, 61, none⟩), .int .i64 ((9 : Nat) : Int), .slice (some ⟨w6.heap.size + 1, 0, none⟩) 9 9, .int .i64 9, .bool false, u123, u124, u125, u126, u127, u128, u129, u130, u131, u132, u133, u134, u135, u136, u137, u138, u139, u140, u141, .agg #[.int .i64 1, .int .i64 68719476736], .pointer (some ⟨w6.heap.size, 0, none⟩), .pointer (some ⟨w6.heap.size, 1, none⟩), .pointer (some ⟨w6.heap.size, 2, none⟩), .pointer (some ⟨w6.heap.size, 3, none⟩), .pointer (some ⟨w6.heap.size, 4, none⟩), .pointer (some ⟨w6.heap.size, 5, none⟩), v 4, v 0, v 1, v 2, v 3, v 5, v 6, v 7, undef, undef, undef, undef, undef, undef, undef, undef, undef, undef, undef, undef, undef, undef, undef, undef, undef, undef, undef, undef, undef, undef, undef, undef, undef, undef, undef, undef, undef, undef, undef, undef, undef, undef, undef, undef, undef, undef, undef, undef, undef, undef, undef, undef, undef, undef, undef, undef, undef, undef, undef, undef, undef, undef, undef, undef, undef, undef, undef, undef, undef, undef, undef, undef, undef, undef, undef, undef, undef, undef, undef, undef, undef, undef, undef, undef, undef, undef], []⟩ ∧ InvL W10 cs listed v wx) (by kernel_rfl) ?_ ?_ ?_
      · refine ⟨fun i => match i with | 0 => undef | 1 => undef | 2 => undef | 3 => undef | 4 => undef | 5 => undef | 6 => undef | 7 => undef | 8 => undef | 9 => undef | 10 => undef | _ => undef, rfl, ⟨fun i hi => ?_, below_drewN (Below.refl _ _) 1, fun hi => ?_, fun hi => ?_, fun hi => ?_, fun hi => ?_⟩⟩
        all_goals
          exfalso
          rw [Array.getElem?_replicate] at hi
          split at hi <;> simp at hi
      · rintro listed a wx i o hsz ho hli ha ⟨v, rfl, hI⟩
        have HV := Lib.hid hI
        have hi : i < 11 := (List.getElem?_eq_some_iff.1 ho).1
        clear hI hsz
        obtain rfl | rfl | rfl | rfl | rfl | rfl | rfl | rfl | rfl | rfl | rfl : i = 0 ∨ i = 1 ∨ i = 2 ∨ i = 3 ∨ i = 4 ∨ i = 5 ∨ i = 6 ∨ i = 7 ∨ i = 8 ∨ i = 9 ∨ i = 10 := by omega
        · -- operation 0
          cases ho
          have hgx := HG10.out.below HV.out.below HG10.out.lt
          have d0 : wx.cell? ⟨w6.heap.size, 0, none⟩ = some (.int .i64 1) := hgx.cell 0
          have d1 : wx.cell? ⟨w6.heap.size, 1, none⟩ = some (.int .i64 1) := hgx.cell 1
          have d2 : wx.cell? ⟨w6.heap.size, 2, none⟩ = some (.int .i64 0) := hgx.cell 2
          have d3 : wx.cell? ⟨w6.heap.size, 3, none⟩ = some (.int .i64 1) := hgx.cell 3
          have d4 : wx.cell? ⟨w6.heap.size, 4, none⟩ = some (.int .u64 18446744073709551615) := hgx.cell 4
          have d5 : wx.cell? ⟨w6.heap.size, 5, none⟩ = some (.int .i64 1) := hgx.cell 5
          have d6 : wx.cell? ⟨w6.heap.size, 6, none⟩ = some (.int .i64 68719476736) := hgx.cell 6
          clear hgx
          refine wpOp_step rfl (fun K hK => ?_)
          go_simp
          exact hK _ _ ⟨updC v 0 _, rfl, HV.out.step (Below.refl _ _) rfl (fun h => absurd h (by decide)) (fun h => absurd h (by decide)) (fun h => absurd h (by decide)) (fun h => absurd h (by decide))⟩
        · -- operation 1
          cases ho
          have hmk := HMJ.out
          refine wpOp_step rfl (fun K hK => ?_)
          go_simp
          exact hK _ _ ⟨updC v 1 _, rfl, HV.out.step ((Below.refl _ _).alloc (Nat.le_refl _) _) trivial (fun _ => ⟨_, rfl, Blk.new wx _ _⟩) (fun h => absurd h (by decide)) (fun h => absurd h (by decide)) (fun h => absurd h (by decide))⟩
        · -- operation 2
          cases ho
          have h0 := HV.out.all 0 (dep_listed ha 0 (by kernel_rfl))
          replace h0 : v 0 = _ := h0
          obtain ⟨q, h1, hq⟩ := HV.out.mks (dep_listed ha 1 (by kernel_rfl))
          refine wpOp_step rfl (fun K hK => ?_)
          go_simp
          exact hK _ _ ⟨updC v 2 _, by simp [updC, h0, h1], HV.out.step (Below.refl _ _) trivial (fun h => absurd h (by decide)) (fun _ => ⟨q, rfl, hq⟩) (fun h => absurd h (by decide)) (fun h => absurd h (by decide))⟩
        · -- operation 3
          cases ho
          obtain ⟨q, h2, hq⟩ := HV.out.bd (dep_listed ha 2 (by kernel_rfl))
          have hwx := HI10.out.trans (HV.out.below.mono HI10.out.size)
          have HCC := Lib.hid (CC.out q wx (arg_65 kG (by decide) (HJ65.out _ _ hq) (HT.out _ hwx).1 (HT.out _ hwx).2))
          clear hwx hq
          refine wpOp_step rfl (fun K hK => ?_)
          go_simp
          refine (HCC.out).mono ?_
          rintro _ w5 ⟨vv, rfl, _, hb⟩
          exact hK _ _ ⟨updC v 3 (.tuple #[.int .i64 (cpC kG 12), vv, .int .i64 12]), by simp [updC, h2], HV.out.step hb trivial (fun h => absurd h (by decide)) (fun h => absurd h (by decide)) (fun _ => ⟨_, _, rfl⟩) (fun h => absurd h (by decide))⟩
        · -- operation 4
          cases ho
          obtain ⟨a3, b3, h3⟩ := HV.out.tp (dep_listed ha 3 (by kernel_rfl))
          refine wpOp_step rfl (fun K hK => ?_)
          go_simp
          exact hK _ _ ⟨updC v 4 (.tuple #[.int .i64 a3, b3, .int .i64 12]), by simp [updC, h3], HV.out.step (Below.refl _ _) trivial (fun h => absurd h (by decide)) (fun h => absurd h (by decide)) (fun h => absurd h (by decide)) (fun _ => ⟨a3, b3, rfl⟩)⟩
        · -- operation 5
          cases ho
          obtain ⟨a3, b3, h4⟩ := HV.out.tq (dep_listed ha 4 (by kernel_rfl))
          refine wpOp_step rfl (fun K hK => ?_)
          go_simp
          exact hK _ _ ⟨updC v 5 (.int .i64 a3), by simp [updC, h4], HV.out.step (Below.refl _ _) trivial (fun h => absurd h (by decide)) (fun h => absurd h (by decide)) (fun h => absurd h (by decide)) (fun h => absurd h (by decide))⟩
        · -- operation 6
          cases ho
          obtain ⟨a3, b3, h4⟩ := HV.out.tq (dep_listed ha 4 (by kernel_rfl))
          refine wpOp_step rfl (fun K hK => ?_)
          go_simp
          exact hK _ _ ⟨updC v 6 (b3), by simp [updC, h4], HV.out.step (Below.refl _ _) trivial (fun h => absurd h (by decide)) (fun h => absurd h (by decide)) (fun h => absurd h (by decide)) (fun h => absurd h (by decide))⟩
        · -- operation 7
          cases ho
          obtain ⟨a3, b3, h4⟩ := HV.out.tq (dep_listed ha 4 (by kernel_rfl))
          refine wpOp_step rfl (fun K hK => ?_)
          go_simp
          exact hK _ _ ⟨updC v 7 (.int .i64 12), by simp [updC, h4], HV.out.step (Below.refl _ _) rfl (fun h => absurd h (by decide)) (fun h => absurd h (by decide)) (fun h => absurd h (by decide)) (fun h => absurd h (by decide))⟩
        · -- operation 8
          cases ho
          refine wpOp_step rfl (fun K hK => ?_)
          go_simp
          exact hK _ _ ⟨updC v 8 _, rfl, HV.out.step (Below.refl _ _) trivial (fun h => absurd h (by decide)) (fun h => absurd h (by decide)) (fun h => absurd h (by decide)) (fun h => absurd h (by decide))⟩
        · -- operation 9
          cases ho
          refine wpOp_step rfl (fun K hK => ?_)
          go_simp
          exact hK _ _ ⟨updC v 9 _, rfl, HV.out.step (Below.refl _ _) trivial (fun h => absurd h (by decide)) (fun h => absurd h (by decide)) (fun h => absurd h (by decide)) (fun h => absurd h (by decide))⟩
        · -- operation 10
          cases ho
          have h7 := HV.out.all 7 (dep_listed ha 7 (by kernel_rfl))
          replace h7 : v 7 = _ := h7
          refine wpOp_step rfl (fun K hK => ?_)
          go_simp
          exact hK _ _ ⟨updC v 10 _, by simp [updC, h7], HV.out.step (Below.refl _ _) rfl (fun h => absurd h (by decide)) (fun h => absurd h (by decide)) (fun h => absurd h (by decide)) (fun h => absurd h (by decide))⟩
      · rintro listed a w25 hsz hr ⟨v, rfl, hI⟩
        have h10 := hI.all 10 (all_listedB hsz (by kernel_rfl) hr 10 (by decide))
        replace h10 : v 10 = .int .i64 12 := h10
        have hb := hI.below
        rw [h10]
        clear h10 hI hr hsz
        generalize v 0 = v0 at *
        generalize v 1 = v1 at *
        generalize v 2 = v2 at *
        generalize v 3 = v3 at *
        generalize v 4 = v4 at *
        generalize v 5 = v5 at *
        generalize v 6 = v6 at *
        generalize v 7 = v7 at *
        generalize v 8 = v8 at *
        generalize v 9 = v9 at *
        have HI25 := Lib.hid (HI.out.next (HB10.out.trans (hb.mono HB10.out.size)))
        have HG25 := Lib.hid (HG10.out.below hb HG10.out.lt)
        clear hb
        clear HI10 HB10 HG10 HMJ HJ65 CC HK
        obtain ⟨c0, c1, c2, c3, c4, c5, c6, c7⟩ := HI25.out.cells
        go_wp2_with fail
        refine (CCP.out _ _ HI25.out.arg).mono ?_
        rintro e w26 ⟨ac, capc, L', rfl, hc, hb⟩
        have HI26 := Lib.hid (HI25.out.next hb)
        have HG26 := Lib.hid (HG25.out.below hb HG25.out.lt)
        obtain ⟨gc, rfl, hgc, hrow, _⟩ := hc.at_ (show 0 < exL.length by decide)
        have HSM := Lib.hid hc.same
        have HL3 : Hid (L'.length = 3) := Lib.hid hc.len
        have e2 : cfV ⟨(exC g).g, some ⟨gc, 0, none⟩, (exC g).n, capc⟩ = #[.int .i64 2, .int .i64 10, .int .i64 10, .int .i64 60, .int .u64 0, .int .i64 0, .int .i64 0, .slice (some ⟨gc, 0, none⟩) 3 capc] := rfl
        rw [e2]
        obtain ⟨W27, hW27⟩ : ∃ W27, W27 = w26.alloc (.cells #[.int .i64 2, .int .i64 10, .int .i64 10, .int .i64 60, .int .u64 0, .int .i64 0, .int .i64 0, .slice (some ⟨gc, 0, none⟩) 3 capc] 29) := ⟨_, rfl⟩
        have hb27 : Below w26.heap.size w26 W27 := by rw [hW27]; exact (Below.refl _ _).alloc (Nat.le_refl _) _
        have HX27 := Lib.hid (show Blk W27 w26.heap.size 29 #[.int .i64 2, .int .i64 10, .int .i64 10, .int .i64 60, .int .u64 0, .int .i64 0, .int .i64 0, .slice (some ⟨gc, 0, none⟩) 3 capc] by rw [hW27]; exact Blk.new _ _ _)
        have hr27 := hrow.below hb27
        have hgl : gc < w26.heap.size := hrow.lt (by rw [HL3.out]; decide)
        have hk1 : 1 < L'.length := by rw [HL3.out]; decide
        have hr28 := hr27.setN hk1 ⟨#[97]⟩
        have hk2 : 2 < (nmJ L' 1 ⟨#[97]⟩ hk1).length := by rw [nmJ_len, HL3.out]; decide
        obtain ⟨M1, hM1⟩ : ∃ M1, M1 = nmJ L' 1 ⟨#[97]⟩ hk1 := ⟨_, rfl⟩
        have HM1 : Hid (cfE exG M1 = 6 ∧ PlainJ M1 ∧ M1.length = 3) := Lib.hid (by
          rw [hM1]
          exact ⟨twice_have HSM.out hk1, nmJ_plain hk1 (HSM.out.plain plain_ex), by rw [nmJ_len, HL3.out]⟩)
        obtain ⟨M2, hM2⟩ : ∃ M2, M2 = nmJ (nmJ L' 1 ⟨#[97]⟩ hk1) 2 ByteArray.empty hk2 := ⟨_, rfl⟩
        have HM2 : Hid (cfE exG M2 = 15 ∧ PlainJ M2 ∧ M2.length = 3) := Lib.hid (by
          rw [hM2]
          exact ⟨twice_name HSM.out hk1 hk2, nmJ_plain hk2 (nmJ_plain hk1 (HSM.out.plain plain_ex)), by rw [nmJ_len, nmJ_len, HL3.out]⟩)
        have HR27 := Lib.hid hr27
        have HM12 : Hid (∀ (W : World), RowC W gc M1 → RowC (W.setCell ⟨gc, 60, none⟩ (.string ByteArray.empty)) gc M2) := Lib.hid (fun W h => by
          rw [hM1] at h
          rw [hM2]
          exact h.setN hk2 ByteArray.empty)
        have HR28 : Hid (RowC (W27.setCell ⟨gc, 30, none⟩ (.string ⟨#[97]⟩)) gc M1) := Lib.hid (by rw [hM1]; exact hr28)
        have g30 : W27.cell? ⟨gc, 30, none⟩ = some (.string L'[1].1.nm) := (hr27 1 hk1 0 (by decide)).1
        have f30 : W27.frozen? ⟨gc, 30, none⟩ = false := (hr27 1 hk1 0 (by decide)).2
        generalize L'[1].1.nm = nm1 at *
        have HBC : Hid (w25.heap.size ≤ gc ∧ gc < w26.heap.size ∧ w26.heap.size < W27.heap.size) := Lib.hid ⟨hgc, hgl, HX27.out.lt⟩
        have HB26 := Lib.hid hb
        have HB27 := Lib.hid hb27
        have HW27 := Lib.hid hW27
        clear hb hc hrow hgc hgl hb27 hr27 hr28 hM1 hM2 hk1 hk2 e2 hW27 c0 c1 c2 c3 c4 c5 c6 c7
        go_upto_region 27 with fail
        rw [← HW27.out]
        have HB527 := Lib.hid (HB26.out.trans (HB27.out.mono HB26.out.size))
        have CDT := Lib.hid (fun M W (hr : RowC W gc M) (hp : PlainJ M) (hn : M.length = 3) (hw : Below w.heap.size w W) => cdue_ok ⟨exG, some ⟨gc, 0, none⟩, 3, capc⟩ M (-1) W (row_arg hr hp hn (HT.out W hw).1 (HT.out W hw).2))
        simp only [cfV_eq] at CDT
        have e0 : W27.cell? ⟨w26.heap.size, 0, none⟩ = some (.int .i64 2) := HX27.out.cell 0
        have e1 : W27.cell? ⟨w26.heap.size, 1, none⟩ = some (.int .i64 10) := HX27.out.cell 1
        have e2 : W27.cell? ⟨w26.heap.size, 2, none⟩ = some (.int .i64 10) := HX27.out.cell 2
        have e3 : W27.cell? ⟨w26.heap.size, 3, none⟩ = some (.int .i64 60) := HX27.out.cell 3
        have e4 : W27.cell? ⟨w26.heap.size, 4, none⟩ = some (.int .u64 0) := HX27.out.cell 4
        have e5 : W27.cell? ⟨w26.heap.size, 5, none⟩ = some (.int .i64 0) := HX27.out.cell 5
        have e6 : W27.cell? ⟨w26.heap.size, 6, none⟩ = some (.int .i64 0) := HX27.out.cell 6
        have e7 : W27.cell? ⟨w26.heap.size, 7, none⟩ = some (.slice (some ⟨gc, 0, none⟩) 3 capc) := HX27.out.cell 7
        go_upto_region 30 with fail
        obtain ⟨W28, hW28⟩ : ∃ W28, W28 = W27.setCell ⟨gc, 30, none⟩ (.string ⟨#[97]⟩) := ⟨_, rfl⟩
        have HR28' : Hid (RowC W28 gc M1) := Lib.hid (by rw [hW28]; exact HR28.out)
        have HX28 : Hid (Blk W28 w26.heap.size 29 _) := Lib.hid (by rw [hW28]; exact HX27.out.far (by show w26.heap.size ≠ gc; have := HBC.out; omega) _)
        have HB528 := Lib.hid (show Below w25.heap.size w25 W28 by rw [hW28]; exact HB527.out.setCell (show w25.heap.size ≤ gc from HBC.out.1) _)
        have HG28 : Hid (Blk W28 w6.heap.size 26 _) := Lib.hid (by rw [hW28]; exact (HG26.out.below HB27.out HG26.out.lt).far (by show w6.heap.size ≠ gc; have := HBC.out; have := HG25.out.lt; omega) _)
        have HWB := Lib.hid (HI25.out.below)
        have C6 := Lib.hid (CDT.out M1 W28 HR28'.out HM1.out.2.1 HM1.out.2.2 (HWB.out.trans (HB528.out.mono HWB.out.size)))
        rw [cdE_err HM1.out.1 (by decide)] at C6
        rw [← hW28]
        clear hW28 e0 e1 e2 e3 e4 e5 e6 e7 g30 f30 HR28 HB27 HB26 HX27
        have e0 : W28.cell? ⟨w26.heap.size, 0, none⟩ = some (.int .i64 2) := HX28.out.cell 0
        have e1 : W28.cell? ⟨w26.heap.size, 1, none⟩ = some (.int .i64 10) := HX28.out.cell 1
        have e2 : W28.cell? ⟨w26.heap.size, 2, none⟩ = some (.int .i64 10) := HX28.out.cell 2
        have e3 : W28.cell? ⟨w26.heap.size, 3, none⟩ = some (.int .i64 60) := HX28.out.cell 3
        have e4 : W28.cell? ⟨w26.heap.size, 4, none⟩ = some (.int .u64 0) := HX28.out.cell 4
        have e5 : W28.cell? ⟨w26.heap.size, 5, none⟩ = some (.int .i64 0) := HX28.out.cell 5
        have e6 : W28.cell? ⟨w26.heap.size, 6, none⟩ = some (.int .i64 0) := HX28.out.cell 6
        have e7 : W28.cell? ⟨w26.heap.size, 7, none⟩ = some (.slice (some ⟨gc, 0, none⟩) 3 capc) := HX28.out.cell 7
        go_wp2_with fail
        refine (C6.out).mono ?_
        rintro e w29 ⟨v29, rfl, _, hb⟩
        have hr29 := HR28'.out.below hb
        have HX29 := Lib.hid (HX28.out.below hb HX28.out.lt)
        have HB529 := Lib.hid (HB528.out.trans (hb.mono HB528.out.size))
        have HG29 := Lib.hid (HG28.out.below hb HG28.out.lt)
        have hk2 : 2 < M1.length := by rw [HM1.out.2.2]; decide
        have g60 : w29.cell? ⟨gc, 60, none⟩ = some (.string M1[2].1.nm) := (hr29 2 hk2 0 (by decide)).1
        have f60 : w29.frozen? ⟨gc, 60, none⟩ = false := (hr29 2 hk2 0 (by decide)).2
        generalize M1[2].1.nm = nm2 at *
        have HR30 := Lib.hid (HM12.out w29 hr29)
        clear hb hr29 hk2 e0 e1 e2 e3 e4 e5 e6 e7 C6
        have e0 : w29.cell? ⟨w26.heap.size, 0, none⟩ = some (.int .i64 2) := HX29.out.cell 0
        have e1 : w29.cell? ⟨w26.heap.size, 1, none⟩ = some (.int .i64 10) := HX29.out.cell 1
        have e2 : w29.cell? ⟨w26.heap.size, 2, none⟩ = some (.int .i64 10) := HX29.out.cell 2
        have e3 : w29.cell? ⟨w26.heap.size, 3, none⟩ = some (.int .i64 60) := HX29.out.cell 3
        have e4 : w29.cell? ⟨w26.heap.size, 4, none⟩ = some (.int .u64 0) := HX29.out.cell 4
        have e5 : w29.cell? ⟨w26.heap.size, 5, none⟩ = some (.int .i64 0) := HX29.out.cell 5
        have e6 : w29.cell? ⟨w26.heap.size, 6, none⟩ = some (.int .i64 0) := HX29.out.cell 6
        have e7 : w29.cell? ⟨w26.heap.size, 7, none⟩ = some (.slice (some ⟨gc, 0, none⟩) 3 capc) := HX29.out.cell 7
        go_upto_region 32 with fail
        obtain ⟨W30, hW30⟩ : ∃ W30, W30 = w29.setCell ⟨gc, 60, none⟩ (.string ByteArray.empty) := ⟨_, rfl⟩
        have HR30' : Hid (RowC W30 gc M2) := Lib.hid (by rw [hW30]; exact HR30.out)
        have HX30 : Hid (Blk W30 w26.heap.size 29 _) := Lib.hid (by rw [hW30]; exact HX29.out.far (by show w26.heap.size ≠ gc; have := HBC.out; omega) _)
        have HB530 := Lib.hid (show Below w25.heap.size w25 W30 by rw [hW30]; exact HB529.out.setCell (show w25.heap.size ≤ gc from HBC.out.1) _)
        have HG30 : Hid (Blk W30 w6.heap.size 26 _) := Lib.hid (by rw [hW30]; exact HG29.out.far (by show w6.heap.size ≠ gc; have := HBC.out; have := HG25.out.lt; omega) _)
        have C15 := Lib.hid (CDT.out M2 W30 HR30'.out HM2.out.2.1 HM2.out.2.2 (HWB.out.trans (HB530.out.mono HWB.out.size)))
        rw [cdE_err HM2.out.1 (by decide)] at C15
        first
          | rw [← hW30]
          | (show Code.wp _ _ _ _ (w29.setCell ⟨gc, 60, none⟩ (.string ByteArray.empty)); rw [← hW30])
        clear hW30 e0 e1 e2 e3 e4 e5 e6 e7 g60 f60 HR30
        have e0 : W30.cell? ⟨w26.heap.size, 0, none⟩ = some (.int .i64 2) := HX30.out.cell 0
        have e1 : W30.cell? ⟨w26.heap.size, 1, none⟩ = some (.int .i64 10) := HX30.out.cell 1
        have e2 : W30.cell? ⟨w26.heap.size, 2, none⟩ = some (.int .i64 10) := HX30.out.cell 2
        have e3 : W30.cell? ⟨w26.heap.size, 3, none⟩ = some (.int .i64 60) := HX30.out.cell 3
        have e4 : W30.cell? ⟨w26.heap.size, 4, none⟩ = some (.int .u64 0) := HX30.out.cell 4
        have e5 : W30.cell? ⟨w26.heap.size, 5, none⟩ = some (.int .i64 0) := HX30.out.cell 5
        have e6 : W30.cell? ⟨w26.heap.size, 6, none⟩ = some (.int .i64 0) := HX30.out.cell 6
        have e7 : W30.cell? ⟨w26.heap.size, 7, none⟩ = some (.slice (some ⟨gc, 0, none⟩) 3 capc) := HX30.out.cell 7
        go_wp2_with fail
        refine (C15.out).mono ?_
        rintro e w31 ⟨v31, rfl, _, hb⟩
        have HB531 := Lib.hid (HB530.out.trans (hb.mono HB530.out.size))
        have HG31 := Lib.hid (HG30.out.below hb HG30.out.lt)
        have HI31 := Lib.hid (HI25.out.next HB531.out)
        clear hb e0 e1 e2 e3 e4 e5 e6 e7 C15 CDT
        obtain ⟨c0, c1, c2, c3, c4, c5, c6, c7⟩ := HI31.out.cells
        go_wp2_with fail
        refine (CDB.out _ _ HI31.out.arg).mono ?_
        rintro e w32 ⟨v32, rfl, _, hb⟩
        have HI32 := Lib.hid (HI31.out.next hb)
        have HG32 := Lib.hid (HG31.out.below hb HG31.out.lt)
        clear hb c0 c1 c2 c3 c4 c5 c6 c7
        obtain ⟨c0, c1, c2, c3, c4, c5, c6, c7⟩ := HI32.out.cells
        go_wp2_with fail
        refine (CNB.out _ _ HI32.out.arg).mono ?_
        rintro e w33 ⟨v33, rfl, _, hb⟩
        have HI33 := Lib.hid (HI32.out.next hb)
        have HG33 := Lib.hid (HG32.out.below hb HG32.out.lt)
        have CN0 := Lib.hid (cnext_ok ⟨kG, none, 0, 0⟩ [] 0 w33 (arg_none (HT.out _ HI33.out.below).1 (HT.out _ HI33.out.below).2))
        have hb0 : cnB (⟨kG, none, 0, 0⟩ : Cf).g [] 0 = false := by unfold cnB; rw [show cnS (⟨kG, none, 0, 0⟩ : Cf).g [] 0 = (none, []) from cnS_none]; rfl
        rw [hb0, show cdE (⟨kG, none, 0, 0⟩ : Cf).g [] 0 = 0 from cdE_none, show cfV ⟨kG, none, 0, 0⟩ = #[.int .i64 1, .int .i64 1, .int .i64 0, .int .i64 1, .int .u64 18446744073709551615, .int .i64 1, .int .i64 68719476736, .slice none 0 0] from rfl] at CN0
        clear hb c0 c1 c2 c3 c4 c5 c6 c7 hb0
        have d0 : w33.cell? ⟨w6.heap.size, 0, none⟩ = some (.int .i64 1) := HG33.out.cell 0
        have d1 : w33.cell? ⟨w6.heap.size, 1, none⟩ = some (.int .i64 1) := HG33.out.cell 1
        have d2 : w33.cell? ⟨w6.heap.size, 2, none⟩ = some (.int .i64 0) := HG33.out.cell 2
        have d3 : w33.cell? ⟨w6.heap.size, 3, none⟩ = some (.int .i64 1) := HG33.out.cell 3
        have d4 : w33.cell? ⟨w6.heap.size, 4, none⟩ = some (.int .u64 18446744073709551615) := HG33.out.cell 4
        have d5 : w33.cell? ⟨w6.heap.size, 5, none⟩ = some (.int .i64 1) := HG33.out.cell 5
        have d6 : w33.cell? ⟨w6.heap.size, 6, none⟩ = some (.int .i64 68719476736) := HG33.out.cell 6
        go_wp2_with fail
        refine (CN0.out).mono ?_
        rintro e w34 ⟨v34, rfl, _, hb⟩
        have HI34 := Lib.hid (HI33.out.next hb)
        have HG34 := Lib.hid (HG33.out.below hb HG33.out.lt)
        have CG0 := Lib.hid (fun W => glob_ok kG W)
        rw [kG_ok, show glV kG = #[.int .i64 1, .int .i64 1, .int .i64 0, .int .i64 1, .int .u64 18446744073709551615, .int .i64 1, .int .i64 68719476736] from rfl, show eB true = 0 from rfl] at CG0
        clear hb d0 d1 d2 d3 d4 d5 d6 CN0
        have d0 : w34.cell? ⟨w6.heap.size, 0, none⟩ = some (.int .i64 1) := HG34.out.cell 0
        have d1 : w34.cell? ⟨w6.heap.size, 1, none⟩ = some (.int .i64 1) := HG34.out.cell 1
        have d2 : w34.cell? ⟨w6.heap.size, 2, none⟩ = some (.int .i64 0) := HG34.out.cell 2
        have d3 : w34.cell? ⟨w6.heap.size, 3, none⟩ = some (.int .i64 1) := HG34.out.cell 3
        have d4 : w34.cell? ⟨w6.heap.size, 4, none⟩ = some (.int .u64 18446744073709551615) := HG34.out.cell 4
        have d5 : w34.cell? ⟨w6.heap.size, 5, none⟩ = some (.int .i64 1) := HG34.out.cell 5
        have d6 : w34.cell? ⟨w6.heap.size, 6, none⟩ = some (.int .i64 68719476736) := HG34.out.cell 6
        go_wp2_with fail
        refine (CG0.out _).mono ?_
        rintro e w35 ⟨rfl, hb⟩
        have HI35 := Lib.hid (HI34.out.next hb)
        clear hb d0 d1 d2 d3 d4 d5 d6
        go_wp2_with fail
        refine (CW.out _ HI35.out.below).mono ?_
        rintro e w36 ⟨rfl, hb⟩
        have HB36 := Lib.hid (HI35.out.below.trans (hb.mono HI35.out.below.size))
        clear hb
        go_wp2_with fail
        go_ret
        exact ⟨rfl, HB36.out⟩
end Go.Proofs.YtihadbkjfocdoaaGreatDoor.BW

