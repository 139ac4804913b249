/- Contracts of config.Equal and of the reference's Equal. -/
import Derived.Test.YtihadbkjfocdoaaGreatDoorCNext
namespace Go.Proofs.YtihadbkjfocdoaaGreatDoor.BW
open Go.RowKit BM Go.Shelf MC RK
open BK hiding ret_bool ret_i64

def poEq (x y : Po) : Bool := (x.cap == y.cap) && (x.pri == y.pri) && (x.spl == y.spl) && (x.ddl == y.ddl) && (x.mis == y.mis) && (x.keep == y.keep) && (x.t == y.t) && (x.tau == y.tau) && (x.f == y.f) && (x.o == y.o) && (x.r == y.r) && (x.m == y.m) && (x.b == y.b) && (x.c == y.c) && (x.j == y.j)
def glEq (x y : Gl) : Bool := (x.cap == y.cap) && (x.q == y.q) && (x.ar == y.ar) && (x.ag == y.ag) && (x.sd == y.sd) && (x.t == y.t) && (x.tau == y.tau)
set_option maxHeartbeats 4000000 in
theorem po_eql (x y : Po) (w : World) : (binOp .eql 58 (.agg #[.int .i64 x.cap, .int .i64 x.pri, .int .i64 x.spl, .int .i64 x.ddl, .int .i64 x.mis, .int .i64 x.keep, .int .i64 x.t, .int .i64 x.tau, .int .i64 x.f, .int .i64 x.o, .int .i64 x.r, .int .i64 x.m, .int .i64 x.b, .int .i64 x.c, .int .i64 x.j]) (.agg #[.int .i64 y.cap, .int .i64 y.pri, .int .i64 y.spl, .int .i64 y.ddl, .int .i64 y.mis, .int .i64 y.keep, .int .i64 y.t, .int .i64 y.tau, .int .i64 y.f, .int .i64 y.o, .int .i64 y.r, .int .i64 y.m, .int .i64 y.b, .int .i64 y.c, .int .i64 y.j])).run Tryz.prog w = .ok (.bool (poEq x y)) w := by
  have h1 : Tryz.prog.underlying 58 = some (.struct (Tryz.prog.fieldsOf 58)) := by kernel_rfl
  have h2 : Tryz.prog.stoodInHeld 58 = false := by kernel_rfl
  rw [run_eql_struct, run_equalIn_agg _ _ _ _ _ h1 h2]
  simp [go_sem, poEq]
  by_cases e0 : x.cap = y.cap
  case neg => simp [e0]
  try simp only [e0, if_true]
  by_cases e1 : x.pri = y.pri
  case neg => simp [e1]
  try simp only [e1, if_true]
  by_cases e2 : x.spl = y.spl
  case neg => simp [e2]
  try simp only [e2, if_true]
  by_cases e3 : x.ddl = y.ddl
  case neg => simp [e3]
  try simp only [e3, if_true]
  by_cases e4 : x.mis = y.mis
  case neg => simp [e4]
  try simp only [e4, if_true]
  by_cases e5 : x.keep = y.keep
  case neg => simp [e5]
  try simp only [e5, if_true]
  by_cases e6 : x.t = y.t
  case neg => simp [e6]
  try simp only [e6, if_true]
  by_cases e7 : x.tau = y.tau
  case neg => simp [e7]
  try simp only [e7, if_true]
  by_cases e8 : x.f = y.f
  case neg => simp [e8]
  try simp only [e8, if_true]
  by_cases e9 : x.o = y.o
  case neg => simp [e9]
  try simp only [e9, if_true]
  by_cases e10 : x.r = y.r
  case neg => simp [e10]
  try simp only [e10, if_true]
  by_cases e11 : x.m = y.m
  case neg => simp [e11]
  try simp only [e11, if_true]
  by_cases e12 : x.b = y.b
  case neg => simp [e12]
  try simp only [e12, if_true]
  by_cases e13 : x.c = y.c
  case neg => simp [e13]
  try simp only [e13, if_true]
  by_cases e14 : x.j = y.j
  case neg => simp [e14]
  try simp only [e14, if_true]
  try simp
set_option maxHeartbeats 4000000 in
theorem po_neq (x y : Po) (w : World) : (binOp .neq 58 (.agg #[.int .i64 x.cap, .int .i64 x.pri, .int .i64 x.spl, .int .i64 x.ddl, .int .i64 x.mis, .int .i64 x.keep, .int .i64 x.t, .int .i64 x.tau, .int .i64 x.f, .int .i64 x.o, .int .i64 x.r, .int .i64 x.m, .int .i64 x.b, .int .i64 x.c, .int .i64 x.j]) (.agg #[.int .i64 y.cap, .int .i64 y.pri, .int .i64 y.spl, .int .i64 y.ddl, .int .i64 y.mis, .int .i64 y.keep, .int .i64 y.t, .int .i64 y.tau, .int .i64 y.f, .int .i64 y.o, .int .i64 y.r, .int .i64 y.m, .int .i64 y.b, .int .i64 y.c, .int .i64 y.j])).run Tryz.prog w = .ok (.bool (!poEq x y)) w := by
  have h1 : Tryz.prog.underlying 58 = some (.struct (Tryz.prog.fieldsOf 58)) := by kernel_rfl
  have h2 : Tryz.prog.stoodInHeld 58 = false := by kernel_rfl
  rw [run_neq_struct, run_equalIn_agg _ _ _ _ _ h1 h2]
  simp [go_sem, poEq]
  by_cases e0 : x.cap = y.cap
  case neg => simp [e0]
  try simp only [e0, if_true]
  by_cases e1 : x.pri = y.pri
  case neg => simp [e1]
  try simp only [e1, if_true]
  by_cases e2 : x.spl = y.spl
  case neg => simp [e2]
  try simp only [e2, if_true]
  by_cases e3 : x.ddl = y.ddl
  case neg => simp [e3]
  try simp only [e3, if_true]
  by_cases e4 : x.mis = y.mis
  case neg => simp [e4]
  try simp only [e4, if_true]
  by_cases e5 : x.keep = y.keep
  case neg => simp [e5]
  try simp only [e5, if_true]
  by_cases e6 : x.t = y.t
  case neg => simp [e6]
  try simp only [e6, if_true]
  by_cases e7 : x.tau = y.tau
  case neg => simp [e7]
  try simp only [e7, if_true]
  by_cases e8 : x.f = y.f
  case neg => simp [e8]
  try simp only [e8, if_true]
  by_cases e9 : x.o = y.o
  case neg => simp [e9]
  try simp only [e9, if_true]
  by_cases e10 : x.r = y.r
  case neg => simp [e10]
  try simp only [e10, if_true]
  by_cases e11 : x.m = y.m
  case neg => simp [e11]
  try simp only [e11, if_true]
  by_cases e12 : x.b = y.b
  case neg => simp [e12]
  try simp only [e12, if_true]
  by_cases e13 : x.c = y.c
  case neg => simp [e13]
  try simp only [e13, if_true]
  by_cases e14 : x.j = y.j
  case neg => simp [e14]
  try simp only [e14, if_true]
  try simp
set_option maxHeartbeats 4000000 in
theorem gl_eql (x y : Gl) (w : World) : (binOp .eql 26 (.agg #[.int .i64 x.cap, .int .i64 x.q, .int .i64 x.ar, .int .i64 x.ag, .int .u64 x.sd, .int .i64 x.t, .int .i64 x.tau]) (.agg #[.int .i64 y.cap, .int .i64 y.q, .int .i64 y.ar, .int .i64 y.ag, .int .u64 y.sd, .int .i64 y.t, .int .i64 y.tau])).run Tryz.prog w = .ok (.bool (glEq x y)) w := by
  have h1 : Tryz.prog.underlying 26 = some (.struct (Tryz.prog.fieldsOf 26)) := by kernel_rfl
  have h2 : Tryz.prog.stoodInHeld 26 = false := by kernel_rfl
  rw [run_eql_struct, run_equalIn_agg _ _ _ _ _ h1 h2]
  simp [go_sem, glEq]
  by_cases e0 : x.cap = y.cap
  case neg => simp [e0]
  try simp only [e0, if_true]
  by_cases e1 : x.q = y.q
  case neg => simp [e1]
  try simp only [e1, if_true]
  by_cases e2 : x.ar = y.ar
  case neg => simp [e2]
  try simp only [e2, if_true]
  by_cases e3 : x.ag = y.ag
  case neg => simp [e3]
  try simp only [e3, if_true]
  by_cases e4 : x.sd = y.sd
  case neg => have f4 : ¬ ((x.sd : Int) = (y.sd : Int)) := fun h => e4 (Int.ofNat_inj.1 h); simp [f4, e4]
  try simp only [e4, if_true]
  by_cases e5 : x.t = y.t
  case neg => simp [e5]
  try simp only [e5, if_true]
  by_cases e6 : x.tau = y.tau
  case neg => simp [e6]
  try simp only [e6, if_true]
  try simp
set_option maxHeartbeats 4000000 in
theorem gl_neq (x y : Gl) (w : World) : (binOp .neq 26 (.agg #[.int .i64 x.cap, .int .i64 x.q, .int .i64 x.ar, .int .i64 x.ag, .int .u64 x.sd, .int .i64 x.t, .int .i64 x.tau]) (.agg #[.int .i64 y.cap, .int .i64 y.q, .int .i64 y.ar, .int .i64 y.ag, .int .u64 y.sd, .int .i64 y.t, .int .i64 y.tau])).run Tryz.prog w = .ok (.bool (!glEq x y)) w := by
  have h1 : Tryz.prog.underlying 26 = some (.struct (Tryz.prog.fieldsOf 26)) := by kernel_rfl
  have h2 : Tryz.prog.stoodInHeld 26 = false := by kernel_rfl
  rw [run_neq_struct, run_equalIn_agg _ _ _ _ _ h1 h2]
  simp [go_sem, glEq]
  by_cases e0 : x.cap = y.cap
  case neg => simp [e0]
  try simp only [e0, if_true]
  by_cases e1 : x.q = y.q
  case neg => simp [e1]
  try simp only [e1, if_true]
  by_cases e2 : x.ar = y.ar
  case neg => simp [e2]
  try simp only [e2, if_true]
  by_cases e3 : x.ag = y.ag
  case neg => simp [e3]
  try simp only [e3, if_true]
  by_cases e4 : x.sd = y.sd
  case neg => have f4 : ¬ ((x.sd : Int) = (y.sd : Int)) := fun h => e4 (Int.ofNat_inj.1 h); simp [f4, e4]
  try simp only [e4, if_true]
  by_cases e5 : x.t = y.t
  case neg => simp [e5]
  try simp only [e5, if_true]
  by_cases e6 : x.tau = y.tau
  case neg => simp [e6]
  try simp only [e6, if_true]
  try simp
/-- Two jobs are the same. -/
def jbEq (x y : Jb × List (Int × Int)) : Bool := sEq x.1.nm y.1.nm && (poEq x.1.y y.1.y && eqP x.1.p y.1.p x.2 y.2)
set_option maxRecDepth 8000 in
set_option maxHeartbeats 4000000 in
theorem eq1_ok (x y : Jb) (l m : List (Int × Int)) (w : World) (hx : PIn w x.p l) (hy : PIn w y.p m) (h9 : x.p.n ≤ 200) (h92 : y.p.n ≤ 200) : Calls Tryz.prog 34 #[.agg (jbV x), .agg (jbV y)] w fun e w' => e = .returned (.bool (jbEq (x, l) (y, m))) ∧ Below w.heap.size w w' := by
  obtain ⟨W1, hW1⟩ : ∃ W1, W1 = (w.alloc (.cells (jbV x) 60)).alloc (.cells (jbV y) 60) := ⟨_, rfl⟩
  have hX : Blk W1 w.heap.size 60 (jbV x) := by rw [hW1]; exact (Blk.new w _ _).alloc _
  have hY : Blk W1 (w.heap.size + 1) 60 (jbV y) := by rw [hW1]; exact Blk.newAt (by simp)
  have hB : Below w.heap.size w W1 := by rw [hW1]; exact ((Below.refl _ w).alloc (Nat.le_refl _) _).alloc (by simp) _
  have LX := Lib.hid ((JbAt.box hX).pol)
  have LY := Lib.hid ((JbAt.box hY).pol)
  have LP := Lib.hid ((JbAt.box hX).plan)
  have LQ := Lib.hid ((JbAt.box hY).plan)
  have CE := Lib.hid (pleq_ok x.p y.p l m W1 (hx.below hB) (hy.below hB) h9 h92)
  have c0 : W1.cell? ⟨w.heap.size, 0, none⟩ = some (.string x.nm) := hX.cell 0
  have c1 : W1.cell? ⟨w.heap.size + 1, 0, none⟩ = some (.string y.nm) := hY.cell 0
  have HB := Lib.hid hB
  have ex := fun w => po_eql x.y y.y w
  rw [show (#[.int .i64 x.y.cap, .int .i64 x.y.pri, .int .i64 x.y.spl, .int .i64 x.y.ddl, .int .i64 x.y.mis, .int .i64 x.y.keep, .int .i64 x.y.t, .int .i64 x.y.tau, .int .i64 x.y.f, .int .i64 x.y.o, .int .i64 x.y.r, .int .i64 x.y.m, .int .i64 x.y.b, .int .i64 x.y.c, .int .i64 x.y.j] : Array Value) = poV x.y from rfl, show (#[.int .i64 y.y.cap, .int .i64 y.y.pri, .int .i64 y.y.spl, .int .i64 y.y.ddl, .int .i64 y.y.mis, .int .i64 y.y.keep, .int .i64 y.y.t, .int .i64 y.y.tau, .int .i64 y.y.f, .int .i64 y.y.o, .int .i64 y.y.r, .int .i64 y.y.m, .int .i64 y.y.b, .int .i64 y.y.c, .int .i64 y.y.j] : Array Value) = poV y.y from rfl] at ex
  have hg : Tryz.prog.eqGuardType Tryz.prog.depth 58 = false := by kernel_rfl
  have HV : Hid (jbEq (x, l) (y, m) = (sEq x.nm y.nm && (poEq x.y y.y && eqP x.p y.p l m))) := Lib.hid rfl
  generalize jbEq (x, l) (y, m) = R at *
  generalize eqP x.p y.p l m = b3 at *
  generalize poEq x.y y.y = b2 at *
  obtain ⟨b1, hb1⟩ : ∃ b, sEq x.nm y.nm = b := ⟨_, rfl⟩
  rw [hb1] at HV
  unfold sEq at hb1
  clear hX hY hB hx hy h9 h92
  cases b1
  · have HR : Hid (R = false) := Lib.hid (by rw [HV.out]; rfl)
    clear HV
    go_enter Tryz.func34, Tryz.ntmps34
    go_upto_region 1 with fail
    rw [← hW1]
    clear hW1
    go_wp2_with fail
    go_ret
    exact ⟨ret_bool HR.out.symm, HB.out⟩
  · cases b2
    · have HR : Hid (R = false) := Lib.hid (by rw [HV.out]; rfl)
      clear HV
      go_enter Tryz.func34, Tryz.ntmps34
      go_upto_region 1 with fail
      rw [← hW1]
      clear hW1
      go_wp2_with (first | (refine wpList_load_if (by rfl) 58 _ rfl w.heap.size (0 + 15) (.agg (poV x.y)) rfl LX.out ?_) | (refine wpList_load_if (by rfl) 58 _ rfl (w.heap.size + 1) (0 + 15) (.agg (poV y.y)) rfl LY.out ?_))
      go_ret
      exact ⟨ret_bool HR.out.symm, HB.out⟩
    · have HR : Hid (R = b3) := Lib.hid (by rw [HV.out]; rfl)
      clear HV
      go_enter Tryz.func34, Tryz.ntmps34
      go_upto_region 1 with fail
      rw [← hW1]
      clear hW1
      go_wp2_with (first | (refine wpList_load_if (by rfl) 58 _ rfl w.heap.size (0 + 15) (.agg (poV x.y)) rfl LX.out ?_) | (refine wpList_load_if (by rfl) 58 _ rfl (w.heap.size + 1) (0 + 15) (.agg (poV y.y)) rfl LY.out ?_) | (refine wpList_load_if (by rfl) 52 _ rfl w.heap.size (0 + 1) (.agg (plV x.p)) rfl LP.out ?_) | (refine wpList_load_if (by rfl) 52 _ rfl (w.heap.size + 1) (0 + 1) (.agg (plV y.p)) rfl LQ.out ?_))
      refine (CE.out).mono ?_
      rintro e_ w2 ⟨rfl, hb⟩
      have HB2 := Lib.hid (HB.out.trans (hb.mono HB.out.size))
      clear hb
      go_wp2_with fail
      go_ret
      exact ⟨ret_bool HR.out.symm, HB2.out⟩
/-- Two lists of jobs are the same. -/
def pairB (L M : JL) (i : Nat) : Bool := match L[i]?, M[i]? with | some x, some y => jbEq x y | _, _ => false
def jsEq (L M : JL) : Bool := decide (L.length = M.length) && (List.range L.length).all (pairB L M)
theorem jsEq_len {L M : JL} (h : L.length ≠ M.length) : jsEq L M = false := by unfold jsEq; rw [decide_eq_false h]; rfl
theorem jsEq_no {L M : JL} {k : Nat} (hk : k < L.length) (h : pairB L M k = false) : jsEq L M = false := by
  unfold jsEq
  have : (List.range L.length).all (pairB L M) = false := by
    rw [← Bool.not_eq_true]
    intro hh
    have := List.all_eq_true.1 hh k (List.mem_range.2 hk)
    rw [h] at this; cases this
  rw [this, Bool.and_false]
theorem jsEq_yes {L M : JL} (h : L.length = M.length) (h2 : ∀ k, k < L.length → pairB L M k = true) : jsEq L M = true := by
  unfold jsEq
  rw [decide_eq_true h, Bool.true_and]
  exact List.all_eq_true.2 (fun k hk => h2 k (List.mem_range.1 hk))
theorem pairB_at {L M : JL} {k : Nat} {x y : Jb} {l m : List (Int × Int)} (h1 : L[k]? = some (x, l)) (h2 : M[k]? = some (y, m)) : pairB L M k = jbEq (x, l) (y, m) := by unfold pairB; rw [h1, h2]
theorem entE : ∀ args w, (callFunc 34 args).run Tryz.prog w = .ok (.enter 34 args) w := enters_of Tryz.func34 (by kernel_rfl) rfl
theorem jb_loadB {w : World} {b : Nat} {j : Jb} (h : Blk w b 60 (jbV j)) : (loadVar 60 ⟨b, 0, none⟩).run Tryz.prog w = .ok (.agg (jbV j)) w := jb_load (o := 0) (fun i _ => by rw [Nat.zero_add]; exact h.cell i)
/-- What EqualFunc asks of each list. -/
structure EqA (w : World) (a : Option Addr) (n : Nat) (L : JL) : Prop where
  n : L.length = n
  at_ : JobsAt w a L
  p9 : ∀ k (hk : k < L.length), L[k].1.p.n ≤ 200
theorem EqA.below {w w' : World} {a : Option Addr} {n : Nat} {L : JL} (h : EqA w a n L) (hb : Below w.heap.size w w') : EqA w' a n L := ⟨h.n, h.at_.below hb, h.p9⟩
theorem EqA.get {w : World} {a : Option Addr} {n : Nat} {L : JL} (h : EqA w a n L) {k : Nat} (hk : k < n) : ∃ x l, L[k]? = some (x, l) ∧ (∃ b off, a = some ⟨b, off, none⟩ ∧ (loadVar 60 ⟨b, off + k * 30, none⟩).run Tryz.prog w = .ok (.agg (jbV x)) w) ∧ PIn w x.p l ∧ x.p.n ≤ 200 := by
  have hkl : k < L.length := by rw [h.n]; exact hk
  obtain ⟨b, off, e, hcl, hpi⟩ := h.at_ k hkl
  exact ⟨L[k].1, L[k].2, List.getElem?_eq_getElem hkl, ⟨b, off, e, jb_load hcl⟩, hpi, h.p9 k hkl⟩
set_option maxRecDepth 8000 in
set_option maxHeartbeats 8000000 in
theorem eqf_ok (L M : JL) (a a2 : Option Addr) (n c n2 c2 : Nat) (hn9 : n ≤ 200) (hn92 : n2 ≤ 200) (w : World) (h1 : EqA w a n L) (h2 : EqA w a2 n2 M) : Calls Tryz.prog 33 #[.slice a n c, .slice a2 n2 c2, .func (.func 34) #[] #[]] w fun e w' => e = .returned (.bool (jsEq L M)) ∧ Below w.heap.size w w' := by
  have HL := Lib.hid h1
  have HM := Lib.hid h2
  have ent := entE
  have HY := Lib.hid (fun (h : L.length = M.length) (hk : ∀ k, k < L.length → pairB L M k = true) => jsEq_yes h hk)
  have HX := Lib.hid (fun k (hk : k < L.length) (h : pairB L M k = false) => jsEq_no hk h)
  have HN := Lib.hid (fun (h : L.length ≠ M.length) => jsEq_len h)
  generalize jsEq L M = R at *
  clear h1 h2
  by_cases hnn : n = n2
  · subst hnn
    have q1 : (n != n) = false := by simp
    have q2 : ((n : Int) != n) = false := by simp
    clear HN
    go_enter Tryz.func33, Tryz.ntmps33
    go_wp2_with fail
    go_loopw [17] (fun s17 wr => ∃ k : Nat, k ≤ n ∧ s17 = .int .i64 k ∧ Below w.heap.size w wr ∧ ∀ i, i < k → pairB L M i = true) (fun s17 _ => n - intJ s17)
    case atStart => exact ⟨0, Nat.zero_le _, rfl, Below.refl _ _, fun i h => absurd h (Nat.not_lt_zero _)⟩
    case round =>
      obtain ⟨k, hk, rfl, hb, hok⟩ := hrel
      have HB := Lib.hid hb
      have HOK := Lib.hid hok
      clear hb hok
      rcases Nat.lt_or_ge k n with hlt | hge
      · obtain ⟨x, l, hxl, ⟨b, off, rfl, hld⟩, _, hx9⟩ := (HL.out.below HB.out).get hlt
        have ha1 := (Below.refl _ wr).alloc (Nat.le_refl _) (.cells (jbV x) 60)
        have hb1 := HB.out.alloc HB.out.size (.cells (jbV x) 60)
        obtain ⟨y, m, hym, ⟨b2, off2, rfl, hld2⟩, _, hy9⟩ := (HM.out.below hb1).get hlt
        have hb2 := hb1.alloc hb1.size (.cells (jbV y) 60)
        obtain ⟨x', l', hxl', _, hpx, _⟩ := (HL.out.below hb2).get hlt
        obtain ⟨y', m', hym', _, hpy, _⟩ := (HM.out.below hb2).get hlt
        obtain ⟨rfl, rfl⟩ : x = x' ∧ l = l' := by rw [hxl] at hxl'; injection hxl' with h; injection h with h1 h2; exact ⟨h1, h2⟩
        obtain ⟨rfl, rfl⟩ : y = y' ∧ m = m' := by rw [hym] at hym'; injection hym' with h; injection h with h1 h2; exact ⟨h1, h2⟩
        have HP := Lib.hid (pairB_at hxl hym)
        have LX := Lib.hid hld
        have LY := Lib.hid hld2
        have SX := Lib.hid (jb_store wr x)
        have SY := Lib.hid (show (storeVar 60 ⟨wr.heap.size + 1, 0, none⟩ (.agg (jbV y))).run Tryz.prog ((wr.alloc (.cells (jbV x) 60)).alloc (.cells zJ 60)) = .ok () ((wr.alloc (.cells (jbV x) 60)).alloc (.cells (jbV y) 60)) from by
          have h := jb_store (wr.alloc (.cells (jbV x) 60)) y
          rw [World.size_alloc] at h
          exact h)
        have hbx : Blk ((wr.alloc (.cells (jbV x) 60)).alloc (.cells (jbV y) 60)) wr.heap.size 60 (jbV x) := (Blk.new wr _ _).alloc _
        have hby : Blk ((wr.alloc (.cells (jbV x) 60)).alloc (.cells (jbV y) 60)) (wr.heap.size + 1) 60 (jbV y) := Blk.newAt (by simp)
        have LBX := Lib.hid (jb_loadB hbx)
        have LBY := Lib.hid (jb_loadB hby)
        have CE := Lib.hid (eq1_ok x y l m _ hpx hpy hx9 hy9)
        have HB2 := Lib.hid hb2
        have hkl : k < L.length := by rw [HL.out.n]; exact hlt
        have HX2 := Lib.hid (HX.out k hkl)
        clear hxl hym hxl' hym' hpx hpy hx9 hy9 hld hld2 hbx hby ha1 hb1 hb2
        obtain ⟨d, hd⟩ : ∃ d, jbEq (x, l) (y, m) = d := ⟨_, rfl⟩
        rw [hd] at CE HP
        clear hd
        cases d
        · have HX3 := Lib.hid (HX2.out HP.out)
          clear HX HX2 HY
          go_wp2_with (first | (refine wpList_load_by rfl 60 _ rfl b (off + k * 30) (.agg (jbV x)) rfl LX.out ?_) | (refine wpList_store_by rfl 60 _ _ rfl wr.heap.size 0 (.agg (jbV x)) _ rfl rfl SX.out ?_) | (refine wpList_load_by rfl 60 _ rfl b2 (off2 + k * 30) (.agg (jbV y)) rfl LY.out ?_) | (refine wpList_store_by rfl 60 _ _ rfl (wr.heap.size + 1) 0 (.agg (jbV y)) _ rfl rfl SY.out ?_) | (refine wpList_load_by rfl 60 _ rfl wr.heap.size 0 (.agg (jbV x)) rfl LBX.out ?_) | (refine wpList_load_by rfl 60 _ rfl (wr.heap.size + 1) 0 (.agg (jbV y)) rfl LBY.out ?_))
          refine (CE.out).mono ?_
          rintro e_ w5 ⟨rfl, hb⟩
          have HB5 := Lib.hid (HB2.out.trans (Below.mono (w := (wr.alloc _).alloc _) hb HB2.out.size))
          clear hb
          go_wp2_with fail
          go_ret
          exact ⟨ret_bool HX3.out.symm, HB5.out⟩
        · go_wp2_with (first | (refine wpList_load_by rfl 60 _ rfl b (off + k * 30) (.agg (jbV x)) rfl LX.out ?_) | (refine wpList_store_by rfl 60 _ _ rfl wr.heap.size 0 (.agg (jbV x)) _ rfl rfl SX.out ?_) | (refine wpList_load_by rfl 60 _ rfl b2 (off2 + k * 30) (.agg (jbV y)) rfl LY.out ?_) | (refine wpList_store_by rfl 60 _ _ rfl (wr.heap.size + 1) 0 (.agg (jbV y)) _ rfl rfl SY.out ?_) | (refine wpList_load_by rfl 60 _ rfl wr.heap.size 0 (.agg (jbV x)) rfl LBX.out ?_) | (refine wpList_load_by rfl 60 _ rfl (wr.heap.size + 1) 0 (.agg (jbV y)) rfl LBY.out ?_))
          refine (CE.out).mono ?_
          rintro e_ w5 ⟨rfl, hb⟩
          have HB5 := Lib.hid (HB2.out.trans (Below.mono (w := (wr.alloc _).alloc _) hb HB2.out.size))
          clear hb
          go_wp2_with fail
          refine ⟨⟨k + 1, by omega, by go_num, HB5.out, fun i h => ?_⟩, ?_⟩
          · rcases Nat.lt_or_ge i k with h4 | h4
            · exact HOK.out i h4
            · obtain rfl : i = k := by omega
              exact HP.out
          · simp [intJ]; omega
      · obtain rfl : n = k := by omega
        have HE := Lib.hid (HY.out (by rw [HL.out.n, HM.out.n]) (fun i hi => HOK.out i (by rw [HL.out.n] at hi; exact hi)))
        go_wp2_with fail
        go_ret
        exact ⟨ret_bool HE.out.symm, HB.out⟩
  · have q1 : (n == n2) = false := by simpa using hnn
    have q2 : ((n : Int) == n2) = false := by rw [beq_eq_false_iff_ne]; omega
    have q3 : (n != n2) = true := by rw [bne, q1]; rfl
    have q4 : ((n : Int) != n2) = true := by rw [bne, q2]; rfl
    have HE := Lib.hid (HN.out (by rw [HL.out.n, HM.out.n]; exact hnn))
    clear hnn
    go_enter Tryz.func33, Tryz.ntmps33
    go_wp2_with fail
    go_ret
    exact ⟨ret_bool HE.out.symm, Below.refl _ _⟩
def cfEq (c d : Cf) (L M : JL) : Bool := glEq c.g d.g && jsEq L M
set_option maxRecDepth 8000 in
set_option maxHeartbeats 8000000 in
theorem cequal_ok (c d : Cf) (L M : JL) (w : World) (h1 : EqA w c.a c.n L) (h2 : EqA w d.a d.n M) (hn9 : c.n ≤ 200) (hn92 : d.n ≤ 200) : Calls Tryz.prog 17 #[.agg (cfV c), .agg (cfV d)] w fun e w' => e = .returned (.bool (cfEq c d L M)) ∧ Below w.heap.size w w' := by
  have hB : Below w.heap.size w ((w.alloc (.cells (cfV c) 29)).alloc (.cells (cfV d) 29)) := ((Below.refl _ w).alloc (Nat.le_refl _) _).alloc (by simp) _
  have CE := Lib.hid (eqf_ok L M c.a d.a c.n c.c d.n d.c hn9 hn92 _ (h1.below hB) (h2.below hB))
  have HB := Lib.hid hB
  have eg := fun w => gl_eql c.g d.g w
  have hg : Tryz.prog.eqGuardType Tryz.prog.depth 26 = false := by kernel_rfl
  have HV : Hid (cfEq c d L M = (glEq c.g d.g && jsEq L M)) := Lib.hid rfl
  generalize cfEq c d L M = R at *
  generalize jsEq L M = b2 at *
  generalize glEq c.g d.g = b1 at *
  rw [cfV_eq, cfV_eq] at CE HB ⊢
  clear hB h1 h2 hn9 hn92
  cases b1
  · have HR : Hid (R = false) := Lib.hid (by rw [HV.out]; rfl)
    clear HV
    go_enter Tryz.func17, Tryz.ntmps17
    go_wp2_with fail
    go_ret
    exact ⟨ret_bool HR.out.symm, HB.out⟩
  · have HR : Hid (R = b2) := Lib.hid (by rw [HV.out]; rfl)
    clear HV
    go_enter Tryz.func17, Tryz.ntmps17
    go_wp2_with fail
    refine (CE.out).mono ?_
    rintro e_ w2 ⟨rfl, hb⟩
    have HB2 := Lib.hid (HB.out.trans (Below.mono (w := (w.alloc _).alloc _) hb HB.out.size))
    clear hb
    go_wp2_with fail
    go_ret
    exact ⟨ret_bool HR.out.symm, HB2.out⟩
end Go.Proofs.YtihadbkjfocdoaaGreatDoor.BW
