/- What the reference's Count knows of the seconds of a span. -/
import Derived.Test.YtmdjfjdlehdhjaaGreatDoorREver
import Derived.Test.YtmdjfjdlehdhjaaGreatDoorMCount
namespace Go.Proofs.YtmdjfjdlehdhjaaGreatDoor.BW
open Go.RowKit BM Go.Shelf MC RK
open BK hiding ret_bool ret_i64

theorem DayI.clock {w : World} {x : Ex} {b d n : Nat} {W : World} (hx : U64s x) {s : Nat} (hs : s < 86400) (h : DayI w x b d n W) : Calls Tryz.prog 125 #[.agg #[.int .u64 x.s, .int .u64 x.mi, .int .u64 x.h, .int .u64 x.d, .int .u64 x.mo, .int .u64 x.w, .bool x.ad, .bool x.aw], .int .i64 s] W fun e W' =>
    e = .returned (.bool (clk x s)) ∧ DayI w x b d n W' := (rclock_ok x hx s hs W).mono fun _ _ ⟨h1, h2⟩ => ⟨h1, h.next h2⟩
end Go.Proofs.YtmdjfjdlehdhjaaGreatDoor.BW
