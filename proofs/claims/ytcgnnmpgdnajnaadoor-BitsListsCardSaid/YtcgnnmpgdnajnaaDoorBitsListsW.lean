/- The walk of BitsLists. -/
import Derived.Test.YtcgnnmpgdnajnaaDoorBitsLRunsW
namespace Go.Proofs.YtcgnnmpgdnajnaaDoor.BW
open Go.RowKit BM

theorem own_block {B : Nat} {e : TypeId} {size n : Nat} {v : Value} {xs : List Value} {w : World} (h : w.ownsRow B e size v n xs) {a : Option Addr} {l c : Nat} (hv : v = .slice a l c) : ∀ b off, a = some ⟨b, off, none⟩ → b < w.heap.size := by
  rintro b off rfl
  subst hv
  exact (h.lt b (by simp [Value.ownBlock])).2
theorem IntsAt.below {B : Nat} {w w' : World} {a : Option Addr} {xs : List Int} (h : IntsAt w a xs) (hb : Below B w w') (ha : ∀ b off, a = some ⟨b, off, none⟩ → b < B) : IntsAt w' a xs := by
  intro k hk
  obtain ⟨b, off, e, h1⟩ := h k hk
  exact ⟨b, off, e, by rw [hb.cell (p := ⟨b, off + k, none⟩) (ha b off e)]; exact h1⟩

set_option maxHeartbeats 4000000 in
theorem lists_walk (s t : Nat) (hs : s < 18446744073709551616) (ht : t < 18446744073709551616) (w : World) (hT0 : Tab w) :
    Calls Tryd.prog 7 #[.int .u64 s, .int .u64 t] w fun e w' => e = .returned (.bool true) ∧ Below w.heap.size w w' := by
  have hT := Lib.hid hT0
  have CL := Lib.hid (list_ok s hs w hT0)
  have hlen := mem_le s
  have hrl := runsF_le 64 s
  clear hT0
  go_enter Tryd.func7, Tryd.ntmps7
  go_wp2_with fail
  refine CL.out.mono ?_
  rintro e w1 ⟨v, rfl, hown, hbl⟩
  obtain ⟨a1, c1, rfl, hat⟩ := hown.shape
  have HB1 := Lib.hid hbl
  have HA1 := Lib.hid hat
  have HO1 := Lib.hid (own_block hown rfl)
  clear hat hown hbl CL
  go_wp2_with fail
  refine (rlist_ok s hs w1).mono ?_
  rintro e w2 ⟨v, rfl, hown, hbl⟩
  obtain ⟨a2, c2, rfl, hat⟩ := hown.shape
  have HB2 := Lib.hid hbl
  have CI := ints_ok a1 a2 c1 c2 ((mem s).map fun (i : Nat) => (i : Int)) ((mem s).map fun (i : Nat) => (i : Int)) (by rw [List.length_map]; omega) (by rw [List.length_map]; omega) w2 (HA1.out.below hbl HO1.out) hat
  rw [decide_eq_true rfl, List.length_map] at CI
  have CI' := Lib.hid CI
  clear hat hown hbl HA1 HO1 CI
  go_wp2_with fail
  refine CI'.out.mono ?_
  rintro e w3 ⟨rfl, n3, rfl⟩
  clear CI'
  have HB3 := Lib.hid (below_drewN (HB1.out.trans (HB2.out.mono HB1.out.size)) n3)
  clear HB1 HB2
  generalize w2.drewN n3 = w3 at *
  go_wp2_with fail
  refine (count_ok s hs _).mono ?_
  rintro e w' ⟨rfl, rfl⟩
  go_wp2_with fail
  refine (rcount_ok s hs _).mono ?_
  rintro e w4 ⟨rfl, hbl⟩
  have HB4 := Lib.hid (HB3.out.trans (hbl.mono HB3.out.size))
  have CR := Lib.hid (runs_walk s hs w4 (hT.out.below HB4.out hT.out.size))
  clear HB3 hbl
  go_wp2_with fail
  refine CR.out.mono ?_
  rintro e w5 ⟨v, rfl, hown, hbl⟩
  obtain ⟨a5, c5, rfl, hat⟩ := hown.shape
  have HB5 := Lib.hid (HB4.out.trans (hbl.mono HB4.out.size))
  have HA5 := Lib.hid hat
  have HO5 := Lib.hid (own_block hown rfl)
  clear hat hown hbl CR HB4
  go_wp2_with fail
  refine (rruns_walk s hs w5).mono ?_
  rintro e w6 ⟨v, B6, rfl, _, hown, hbl⟩
  obtain ⟨a6, c6, rfl, hat⟩ := hown.shape
  have HB6 := Lib.hid (HB5.out.trans (hbl.mono HB5.out.size))
  have CI := runs_ok a5 a6 c5 c6 (runsF 64 s) (runsF 64 s) (by omega) (by omega) w6 (HA5.out.below hbl HO5.out) hat
  rw [decide_eq_true rfl] at CI
  have CI' := Lib.hid CI
  clear hat hown hbl HA5 HO5 CI HB5
  go_wp2_with fail
  refine CI'.out.mono ?_
  rintro e w7 ⟨rfl, n7, rfl⟩
  have HB7 := Lib.hid (below_drewN HB6.out n7)
  clear CI' HB6
  generalize w6.drewN n7 = w7 at *
  have CW := Lib.hid (works_ok w7 (hT.out.below HB7.out hT.out.size))
  have C1 := Lib.hid (fun W => sub_ok s t hs ht W)
  have C2 := Lib.hid (fun W => rsub_ok s t hs ht W)
  generalize sub s t = c at *
  go_wp2_with fail
  refine (C1.out _).mono ?_
  rintro e w' ⟨rfl, rfl⟩
  go_wp2_with fail
  refine (C2.out _).mono ?_
  rintro e w' ⟨rfl, rfl⟩
  cases c
  all_goals (
    go_wp2_with fail
    refine CW.out.mono ?_
    rintro e w8 ⟨rfl, hb2⟩
    have HB8 := Lib.hid (HB7.out.trans (hb2.mono HB7.out.size))
    clear hb2
    go_wp2
    go_ret
    exact ⟨rfl, HB8.out⟩)
end Go.Proofs.YtcgnnmpgdnajnaaDoor.BW
