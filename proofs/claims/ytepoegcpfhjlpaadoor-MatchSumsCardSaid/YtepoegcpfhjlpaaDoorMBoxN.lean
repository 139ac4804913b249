/- The calls of Next and Prev, beside the box of an expression. -/
import Derived.Test.YtepoegcpfhjlpaaDoorMEverW
import Derived.Test.YtepoegcpfhjlpaaDoorMPrev
namespace Go.Proofs.YtepoegcpfhjlpaaDoor.BW
open Go.RowKit BM Go.Shelf MC
open BK hiding ret_bool ret_i64

theorem Box.rnext {w : World} {x : Ex} {W : World} (hx : U64s x) (z t : Int) {n : Int} {a : Bool} {c : Int} (hn : optI (nxV x z t) = n) (ha : (nxV x z t).isSome = a) (hc : chk x z [t] = c) (h : Box w x W) : Calls Tryd.prog 29 #[.agg #[.int .u64 x.s, .int .u64 x.mi, .int .u64 x.h, .int .u64 x.d, .int .u64 x.mo, .int .u64 x.w, .bool x.ad, .bool x.aw], .int .i64 z, .int .i64 t] W fun e W' =>
    e = .returned (.tuple #[.int .i64 n, .bool a, .int .i64 c]) ∧ Box w x W' := by
  subst hn ha hc
  exact (rnext_ok x hx z t W).mono fun _ _ ⟨h1, h2⟩ => ⟨h1, h.next h2⟩
theorem Box.prv {w : World} {x : Ex} {W : World} (hx : U64s x) (z t : Int) {n : Int} {a : Bool} {c : Int} (hn : optI (pvV x z t) = n) (ha : (pvV x z t).isSome = a) (hc : chk x z [t] = c) (h : Box w x W) : Calls Tryd.prog 30 #[.agg #[.int .u64 x.s, .int .u64 x.mi, .int .u64 x.h, .int .u64 x.d, .int .u64 x.mo, .int .u64 x.w, .bool x.ad, .bool x.aw], .int .i64 z, .int .i64 t] W fun e W' =>
    e = .returned (.tuple #[.int .i64 n, .bool a, .int .i64 c]) ∧ Box w x W' := by
  subst hn ha hc
  exact (pprev_ok x hx z t W h.sp h.tab).mono fun _ _ ⟨h1, h2⟩ => ⟨h1, h.next h2⟩
theorem Box.rprev {w : World} {x : Ex} {W : World} (hx : U64s x) (z t : Int) {n : Int} {a : Bool} {c : Int} (hn : optI (pvV x z t) = n) (ha : (pvV x z t).isSome = a) (hc : chk x z [t] = c) (h : Box w x W) : Calls Tryd.prog 31 #[.agg #[.int .u64 x.s, .int .u64 x.mi, .int .u64 x.h, .int .u64 x.d, .int .u64 x.mo, .int .u64 x.w, .bool x.ad, .bool x.aw], .int .i64 z, .int .i64 t] W fun e W' =>
    e = .returned (.tuple #[.int .i64 n, .bool a, .int .i64 c]) ∧ Box w x W' := by
  subst hn ha hc
  exact (rprev_ok x hx z t W).mono fun _ _ ⟨h1, h2⟩ => ⟨h1, h.next h2⟩
end Go.Proofs.YtepoegcpfhjlpaaDoor.BW
