/- States of gates as rows; slices.Equal over them, and wakemanlaw35.equal. -/
import Derived.Test.YtpgckpafjiojfaaGreatDoorAHa
namespace Go.Proofs.YtpgckpafjiojfaaGreatDoor.AD
open Go Go.RowKit BW
open BK (Bx BoxAt Blk only_refl only_drew only_drewN only_setCell only_trans only_of_below only_alloc below_drewN)
def RowL(W:World)(B:Nat)(a:Option Addr)(es:List Int):Prop:=0<es.length→∃b cs,a=some ⟨b,0,none⟩∧B≤b∧Blk W b 2 cs∧∀k (hk:k<es.length),cs[k]? = some (.int .i64 es[k])
abbrev BxQ:=Int × Int × Int × Int
def RowB(W:World)(B:Nat)(a:Option Addr)(bs:List BxQ):Prop:=0<bs.length→∃b cs,a=some ⟨b,0,none⟩∧B≤b∧Blk W b 101 cs∧∀k (hk:k<bs.length),cs[k*4]? = some (.int .i64 bs[k].1)∧cs[k*4+1]? = some (.int .i64 bs[k].2.1)∧cs[k*4+2]? = some (.int .i64 bs[k].2.2.1)∧cs[k*4+3]? = some (.int .i64 bs[k].2.2.2)
structure StAt(W:World)(B:Nat)(v:Value)(rs ts:List Int)(bs:List BxQ):Prop where
 e:∃a1 c1 a2 c2 a3 c3,v=.agg #[.slice a1 rs.length c1,.slice a2 ts.length c2,.slice a3 bs.length c3]∧RowI W B a1 rs∧RowL W B a2 ts∧RowB W B a3 bs
end Go.Proofs.YtpgckpafjiojfaaGreatDoor.AD
