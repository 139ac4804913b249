/-
  DERIVED. GIVEN WITH THE SEED: THE CARDS: each row of YtmkdjdfhkhmejaaGreatDoorRows.lean that lists a variable, with what it lists TIED to the program's text (the seventh form; the later family's looks); each row that meets fmt, with fmt's text TOLD by the authors' own Lean function (tested against real Go, not proved from fmt's source: count such statements apart). THE CARD IS WHAT COUNTS. Prove the row's statement (the work); the ties are given (YtmkdjdfhkhmejaaGreatDoorTie.lean); close each card by the builder's one call (the guide's Derived/Test/ToyasCard.lean, 'card_holds'). Laid BY PROGRAM, IN A SANDBOX (cutbox-door.mjs). By AI agents, Wed Nov 11 2026. No macro, syntax, notation, axiom, sorry.
-/
import Derived.Test.YtmkdjdfhkhmejaaGreatDoorRows
import GoSem.ClaimSeven
namespace Go.Proofs.YtmkdjdfhkhmejaaGreatDoor
namespace Rows

/-- THE TIED CARD OF 'wakemanlaw12.PlanChecks'. -/
def planChecksCard : Claim7 := { stood := { row := planChecksRow, standIns := [], harness := (true, "a0ccc550c5cdb5b1d1e6b5d2bce57274f1e2f0c0a1095c650a4317aad556b9ca"), looks := false }, kinds := [], alts := [], laidByText := true, laidKinds := [.data, .data, .listed, .data, .pinned], laidTests := true, laidLooks := .later }
def PlanChecksCardSaid : Prop := Claim7.holds Tryz.pinned (.plain (OpenSpec.ofChange planChecksSpec)) planChecksCard

/-- THE TIED CARD OF 'wakemanlaw12.PlanLists'. -/
def planListsCard : Claim7 := { stood := { row := planListsRow, standIns := [], harness := (true, "a0ccc550c5cdb5b1d1e6b5d2bce57274f1e2f0c0a1095c650a4317aad556b9ca"), looks := false }, kinds := [], alts := [], laidByText := true, laidKinds := [.data, .data, .listed, .data, .pinned], laidTests := true, laidLooks := .later }
def PlanListsCardSaid : Prop := Claim7.holds Tryz.pinned (.plain (OpenSpec.ofChange planListsSpec)) planListsCard

/-- THE TIED CARD OF 'wakemanlaw12.PlanDues'. -/
def planDuesCard : Claim7 := { stood := { row := planDuesRow, standIns := [], harness := (true, "a0ccc550c5cdb5b1d1e6b5d2bce57274f1e2f0c0a1095c650a4317aad556b9ca"), looks := false }, kinds := [], alts := [], laidByText := true, laidKinds := [.data, .data, .listed, .data, .pinned], laidTests := true, laidLooks := .later }
def PlanDuesCardSaid : Prop := Claim7.holds Tryz.pinned (.plain (OpenSpec.ofChange planDuesSpec)) planDuesCard

/-- THE TIED CARD OF 'wakemanlaw12.PlanNearest'. -/
def planNearestCard : Claim7 := { stood := { row := planNearestRow, standIns := [], harness := (true, "a0ccc550c5cdb5b1d1e6b5d2bce57274f1e2f0c0a1095c650a4317aad556b9ca"), looks := false }, kinds := [], alts := [], laidByText := true, laidKinds := [.data, .data, .listed, .data, .pinned], laidTests := true, laidLooks := .later }
def PlanNearestCardSaid : Prop := Claim7.holds Tryz.pinned (.plain (OpenSpec.ofChange planNearestSpec)) planNearestCard

/-- THE TIED CARD OF 'wakemanlaw12.PlanSkips'. -/
def planSkipsCard : Claim7 := { stood := { row := planSkipsRow, standIns := [], harness := (true, "a0ccc550c5cdb5b1d1e6b5d2bce57274f1e2f0c0a1095c650a4317aad556b9ca"), looks := false }, kinds := [], alts := [], laidByText := true, laidKinds := [.data, .data, .listed, .data, .pinned], laidTests := true, laidLooks := .later }
def PlanSkipsCardSaid : Prop := Claim7.holds Tryz.pinned (.plain (OpenSpec.ofChange planSkipsSpec)) planSkipsCard

/-- THE TIED CARD OF 'wakemanlaw12.PlanSums'. -/
def planSumsCard : Claim7 := { stood := { row := planSumsRow, standIns := [], harness := (true, "a0ccc550c5cdb5b1d1e6b5d2bce57274f1e2f0c0a1095c650a4317aad556b9ca"), looks := false }, kinds := [], alts := [], laidByText := true, laidKinds := [.data, .data, .listed, .data, .pinned], laidTests := true, laidLooks := .later }
def PlanSumsCardSaid : Prop := Claim7.holds Tryz.pinned (.plain (OpenSpec.ofChange planSumsSpec)) planSumsCard

/-- THE TIED CARD OF 'wakemanlaw12.PlanNone'. -/
def planNoneCard : Claim7 := { stood := { row := planNoneRow, standIns := [], harness := (true, "a0ccc550c5cdb5b1d1e6b5d2bce57274f1e2f0c0a1095c650a4317aad556b9ca"), looks := false }, kinds := [], alts := [], laidByText := true, laidKinds := [.data, .data, .listed, .data, .pinned], laidTests := true, laidLooks := .later }
def PlanNoneCardSaid : Prop := Claim7.holds Tryz.pinned (.plain (OpenSpec.ofChange planNoneSpec)) planNoneCard

/-- THE TIED CARD OF 'wakemanlaw12.PlanDue'. -/
def planDueCard : Claim7 := { stood := { row := planDueRow, standIns := [], harness := (true, "a0ccc550c5cdb5b1d1e6b5d2bce57274f1e2f0c0a1095c650a4317aad556b9ca"), looks := false }, kinds := [], alts := [], laidByText := true, laidKinds := [.data, .data, .listed, .data, .pinned], laidTests := true, laidLooks := .later }
def PlanDueCardSaid : Prop := Claim7.holds Tryz.pinned (.plain (OpenSpec.ofChange planDueSpec)) planDueCard

/-- THE TIED CARD OF 'wakemanlaw12.PlanKnown'. -/
def planKnownCard : Claim7 := { stood := { row := planKnownRow, standIns := [], harness := (true, "a0ccc550c5cdb5b1d1e6b5d2bce57274f1e2f0c0a1095c650a4317aad556b9ca"), looks := false }, kinds := [], alts := [], laidByText := true, laidKinds := [.data, .data, .listed, .data, .pinned], laidTests := true, laidLooks := .later }
def PlanKnownCardSaid : Prop := Claim7.holds Tryz.pinned (.plain (OpenSpec.ofChange planKnownSpec)) planKnownCard

/-- THE TIED CARD OF 'wakemanlaw12.PlanSames'. -/
def planSamesCard : Claim7 := { stood := { row := planSamesRow, standIns := [], harness := (true, "a0ccc550c5cdb5b1d1e6b5d2bce57274f1e2f0c0a1095c650a4317aad556b9ca"), looks := false }, kinds := [], alts := [], laidByText := true, laidKinds := [.data, .data, .listed, .data, .pinned], laidTests := true, laidLooks := .later }
def PlanSamesCardSaid : Prop := Claim7.holds Tryz.pinned (.plain (OpenSpec.ofChange planSamesSpec)) planSamesCard

/-- THE SECOND FORM's CARD OF 'wakemanlaw12.PlanChecks'. -/
def planChecksUptoCard : Claim7 := { stood := { row := planChecksUptoRow, standIns := [], harness := (true, "a0ccc550c5cdb5b1d1e6b5d2bce57274f1e2f0c0a1095c650a4317aad556b9ca"), looks := false }, kinds := [], alts := [], laidByText := true, laidKinds := [.data, .data, .listed, .data, .pinned], laidTests := true, laidLooks := .later }
def PlanChecksUptoCardSaid : Prop := Claim7.holds Tryz.pinned (.plain (OpenSpec.upto planChecksSpec)) planChecksUptoCard

/-- THE SECOND FORM's CARD OF 'wakemanlaw12.PlanLists'. -/
def planListsUptoCard : Claim7 := { stood := { row := planListsUptoRow, standIns := [], harness := (true, "a0ccc550c5cdb5b1d1e6b5d2bce57274f1e2f0c0a1095c650a4317aad556b9ca"), looks := false }, kinds := [], alts := [], laidByText := true, laidKinds := [.data, .data, .listed, .data, .pinned], laidTests := true, laidLooks := .later }
def PlanListsUptoCardSaid : Prop := Claim7.holds Tryz.pinned (.plain (OpenSpec.upto planListsSpec)) planListsUptoCard

/-- THE SECOND FORM's CARD OF 'wakemanlaw12.PlanDues'. -/
def planDuesUptoCard : Claim7 := { stood := { row := planDuesUptoRow, standIns := [], harness := (true, "a0ccc550c5cdb5b1d1e6b5d2bce57274f1e2f0c0a1095c650a4317aad556b9ca"), looks := false }, kinds := [], alts := [], laidByText := true, laidKinds := [.data, .data, .listed, .data, .pinned], laidTests := true, laidLooks := .later }
def PlanDuesUptoCardSaid : Prop := Claim7.holds Tryz.pinned (.plain (OpenSpec.upto planDuesSpec)) planDuesUptoCard

/-- THE SECOND FORM's CARD OF 'wakemanlaw12.PlanNearest'. -/
def planNearestUptoCard : Claim7 := { stood := { row := planNearestUptoRow, standIns := [], harness := (true, "a0ccc550c5cdb5b1d1e6b5d2bce57274f1e2f0c0a1095c650a4317aad556b9ca"), looks := false }, kinds := [], alts := [], laidByText := true, laidKinds := [.data, .data, .listed, .data, .pinned], laidTests := true, laidLooks := .later }
def PlanNearestUptoCardSaid : Prop := Claim7.holds Tryz.pinned (.plain (OpenSpec.upto planNearestSpec)) planNearestUptoCard

/-- THE SECOND FORM's CARD OF 'wakemanlaw12.PlanSkips'. -/
def planSkipsUptoCard : Claim7 := { stood := { row := planSkipsUptoRow, standIns := [], harness := (true, "a0ccc550c5cdb5b1d1e6b5d2bce57274f1e2f0c0a1095c650a4317aad556b9ca"), looks := false }, kinds := [], alts := [], laidByText := true, laidKinds := [.data, .data, .listed, .data, .pinned], laidTests := true, laidLooks := .later }
def PlanSkipsUptoCardSaid : Prop := Claim7.holds Tryz.pinned (.plain (OpenSpec.upto planSkipsSpec)) planSkipsUptoCard

/-- THE SECOND FORM's CARD OF 'wakemanlaw12.PlanSums'. -/
def planSumsUptoCard : Claim7 := { stood := { row := planSumsUptoRow, standIns := [], harness := (true, "a0ccc550c5cdb5b1d1e6b5d2bce57274f1e2f0c0a1095c650a4317aad556b9ca"), looks := false }, kinds := [], alts := [], laidByText := true, laidKinds := [.data, .data, .listed, .data, .pinned], laidTests := true, laidLooks := .later }
def PlanSumsUptoCardSaid : Prop := Claim7.holds Tryz.pinned (.plain (OpenSpec.upto planSumsSpec)) planSumsUptoCard

/-- THE SECOND FORM's CARD OF 'wakemanlaw12.PlanNone'. -/
def planNoneUptoCard : Claim7 := { stood := { row := planNoneUptoRow, standIns := [], harness := (true, "a0ccc550c5cdb5b1d1e6b5d2bce57274f1e2f0c0a1095c650a4317aad556b9ca"), looks := false }, kinds := [], alts := [], laidByText := true, laidKinds := [.data, .data, .listed, .data, .pinned], laidTests := true, laidLooks := .later }
def PlanNoneUptoCardSaid : Prop := Claim7.holds Tryz.pinned (.plain (OpenSpec.upto planNoneSpec)) planNoneUptoCard

/-- THE SECOND FORM's CARD OF 'wakemanlaw12.PlanDue'. -/
def planDueUptoCard : Claim7 := { stood := { row := planDueUptoRow, standIns := [], harness := (true, "a0ccc550c5cdb5b1d1e6b5d2bce57274f1e2f0c0a1095c650a4317aad556b9ca"), looks := false }, kinds := [], alts := [], laidByText := true, laidKinds := [.data, .data, .listed, .data, .pinned], laidTests := true, laidLooks := .later }
def PlanDueUptoCardSaid : Prop := Claim7.holds Tryz.pinned (.plain (OpenSpec.upto planDueSpec)) planDueUptoCard

/-- THE SECOND FORM's CARD OF 'wakemanlaw12.PlanKnown'. -/
def planKnownUptoCard : Claim7 := { stood := { row := planKnownUptoRow, standIns := [], harness := (true, "a0ccc550c5cdb5b1d1e6b5d2bce57274f1e2f0c0a1095c650a4317aad556b9ca"), looks := false }, kinds := [], alts := [], laidByText := true, laidKinds := [.data, .data, .listed, .data, .pinned], laidTests := true, laidLooks := .later }
def PlanKnownUptoCardSaid : Prop := Claim7.holds Tryz.pinned (.plain (OpenSpec.upto planKnownSpec)) planKnownUptoCard

/-- THE SECOND FORM's CARD OF 'wakemanlaw12.PlanSames'. -/
def planSamesUptoCard : Claim7 := { stood := { row := planSamesUptoRow, standIns := [], harness := (true, "a0ccc550c5cdb5b1d1e6b5d2bce57274f1e2f0c0a1095c650a4317aad556b9ca"), looks := false }, kinds := [], alts := [], laidByText := true, laidKinds := [.data, .data, .listed, .data, .pinned], laidTests := true, laidLooks := .later }
def PlanSamesUptoCardSaid : Prop := Claim7.holds Tryz.pinned (.plain (OpenSpec.upto planSamesSpec)) planSamesUptoCard
end Rows
end Go.Proofs.YtmkdjdfhkhmejaaGreatDoor
