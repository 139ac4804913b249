/-
  DERIVED. GIVEN WITH THE SEED: THE CARDS: each row of YtmdjfjdlehdhjaaGreatDoorRows.lean that lists a variable, with what it lists TIED to the program's text (the seventh form; the later family's looks); each row that meets fmt, with fmt's text TOLD by the authors' own Lean function (tested against real Go, not proved from fmt's source: count such statements apart). THE CARD IS WHAT COUNTS. Prove the row's statement (the work); the ties are given (YtmdjfjdlehdhjaaGreatDoorTie.lean); close each card by the builder's one call (the guide's Derived/Test/ToyasCard.lean, 'card_holds'). Laid BY PROGRAM, IN A SANDBOX (cutbox-door.mjs). By AI agents, Wed Nov 11 2026. No macro, syntax, notation, axiom, sorry.
-/
import Derived.Test.YtmdjfjdlehdhjaaGreatDoorRows
import GoSem.ClaimSeven
namespace Go.Proofs.YtmdjfjdlehdhjaaGreatDoor
namespace Rows

/-- THE TIED CARD OF 'wakemanlaw12.PlanKnown'. -/
def planKnownCard : Claim7 := { stood := { row := planKnownRow, standIns := [], harness := (true, "d1bc54e9762e096bcf00979b001cc927417950846a74857f8161b6c649a1b3d2"), looks := false }, kinds := [], alts := [], laidByText := true, laidKinds := [.data, .data, .listed, .data, .pinned], laidTests := true, laidLooks := .later }
def PlanKnownCardSaid : Prop := Claim7.holds Tryz.pinned (.plain (OpenSpec.ofChange planKnownSpec)) planKnownCard

/-- THE TIED CARD OF 'wakemanlaw16.ConfigDues'. -/
def configDuesCard : Claim7 := { stood := { row := configDuesRow, standIns := [], harness := (true, "d1bc54e9762e096bcf00979b001cc927417950846a74857f8161b6c649a1b3d2"), looks := false }, kinds := [], alts := [], laidByText := true, laidKinds := [.data, .data, .listed, .data, .pinned], laidTests := true, laidLooks := .later }
def ConfigDuesCardSaid : Prop := Claim7.holds Tryz.pinned (.plain (OpenSpec.ofChange configDuesSpec)) configDuesCard

/-- THE TIED CARD OF 'wakemanlaw16.ConfigNearest'. -/
def configNearestCard : Claim7 := { stood := { row := configNearestRow, standIns := [], harness := (true, "d1bc54e9762e096bcf00979b001cc927417950846a74857f8161b6c649a1b3d2"), looks := false }, kinds := [], alts := [], laidByText := true, laidKinds := [.data, .data, .listed, .data, .pinned], laidTests := true, laidLooks := .later }
def ConfigNearestCardSaid : Prop := Claim7.holds Tryz.pinned (.plain (OpenSpec.ofChange configNearestSpec)) configNearestCard

/-- THE TIED CARD OF 'wakemanlaw16.ConfigOthers'. -/
def configOthersCard : Claim7 := { stood := { row := configOthersRow, standIns := [], harness := (true, "d1bc54e9762e096bcf00979b001cc927417950846a74857f8161b6c649a1b3d2"), looks := false }, kinds := [], alts := [], laidByText := true, laidKinds := [.data, .data, .listed, .data, .pinned], laidTests := true, laidLooks := .later }
def ConfigOthersCardSaid : Prop := Claim7.holds Tryz.pinned (.plain (OpenSpec.ofChange configOthersSpec)) configOthersCard

/-- THE TIED CARD OF 'wakemanlaw16.ConfigChecks'. -/
def configChecksCard : Claim7 := { stood := { row := configChecksRow, standIns := [], harness := (true, "d1bc54e9762e096bcf00979b001cc927417950846a74857f8161b6c649a1b3d2"), looks := false }, kinds := [], alts := [], laidByText := true, laidKinds := [.data, .data, .listed, .data, .pinned], laidTests := true, laidLooks := .later }
def ConfigChecksCardSaid : Prop := Claim7.holds Tryz.pinned (.plain (OpenSpec.ofChange configChecksSpec)) configChecksCard

/-- THE TIED CARD OF 'wakemanlaw16.ConfigCaps'. -/
def configCapsCard : Claim7 := { stood := { row := configCapsRow, standIns := [], harness := (true, "d1bc54e9762e096bcf00979b001cc927417950846a74857f8161b6c649a1b3d2"), looks := false }, kinds := [], alts := [], laidByText := true, laidKinds := [.data, .data, .listed, .data, .pinned], laidTests := true, laidLooks := .later }
def ConfigCapsCardSaid : Prop := Claim7.holds Tryz.pinned (.plain (OpenSpec.ofChange configCapsSpec)) configCapsCard

/-- THE TIED CARD OF 'wakemanlaw16.ConfigKnown'. -/
def configKnownCard : Claim7 := { stood := { row := configKnownRow, standIns := [], harness := (true, "d1bc54e9762e096bcf00979b001cc927417950846a74857f8161b6c649a1b3d2"), looks := false }, kinds := [], alts := [], laidByText := true, laidKinds := [.data, .data, .listed, .data, .pinned], laidTests := true, laidLooks := .later }
def ConfigKnownCardSaid : Prop := Claim7.holds Tryz.pinned (.plain (OpenSpec.ofChange configKnownSpec)) configKnownCard

/-- THE TIED CARD OF 'wakemanlaw16.ConfigFlaws'. -/
def configFlawsCard : Claim7 := { stood := { row := configFlawsRow, standIns := [], harness := (true, "d1bc54e9762e096bcf00979b001cc927417950846a74857f8161b6c649a1b3d2"), looks := false }, kinds := [], alts := [], laidByText := true, laidKinds := [.data, .data, .listed, .data, .pinned], laidTests := true, laidLooks := .later }
def ConfigFlawsCardSaid : Prop := Claim7.holds Tryz.pinned (.plain (OpenSpec.ofChange configFlawsSpec)) configFlawsCard

/-- THE TIED CARD OF 'wakemanlaw16.ConfigSames'. -/
def configSamesCard : Claim7 := { stood := { row := configSamesRow, standIns := [], harness := (true, "d1bc54e9762e096bcf00979b001cc927417950846a74857f8161b6c649a1b3d2"), looks := false }, kinds := [], alts := [], laidByText := true, laidKinds := [.data, .data, .listed, .data, .pinned], laidTests := true, laidLooks := .later }
def ConfigSamesCardSaid : Prop := Claim7.holds Tryz.pinned (.plain (OpenSpec.ofChange configSamesSpec)) configSamesCard

/-- THE TIED CARD OF 'wakemanlaw16.ConfigNames'. -/
def configNamesCard : Claim7 := { stood := { row := configNamesRow, standIns := [], harness := (true, "d1bc54e9762e096bcf00979b001cc927417950846a74857f8161b6c649a1b3d2"), looks := false }, kinds := [], alts := [], laidByText := true, laidKinds := [.data, .data, .listed, .data, .pinned], laidTests := true, laidLooks := .later }
def ConfigNamesCardSaid : Prop := Claim7.holds Tryz.pinned (.plain (OpenSpec.ofChange configNamesSpec)) configNamesCard

/-- THE SECOND FORM's CARD OF 'wakemanlaw12.PlanKnown'. -/
def planKnownUptoCard : Claim7 := { stood := { row := planKnownUptoRow, standIns := [], harness := (true, "d1bc54e9762e096bcf00979b001cc927417950846a74857f8161b6c649a1b3d2"), looks := false }, kinds := [], alts := [], laidByText := true, laidKinds := [.data, .data, .listed, .data, .pinned], laidTests := true, laidLooks := .later }
def PlanKnownUptoCardSaid : Prop := Claim7.holds Tryz.pinned (.plain (OpenSpec.upto planKnownSpec)) planKnownUptoCard

/-- THE SECOND FORM's CARD OF 'wakemanlaw16.ConfigDues'. -/
def configDuesUptoCard : Claim7 := { stood := { row := configDuesUptoRow, standIns := [], harness := (true, "d1bc54e9762e096bcf00979b001cc927417950846a74857f8161b6c649a1b3d2"), looks := false }, kinds := [], alts := [], laidByText := true, laidKinds := [.data, .data, .listed, .data, .pinned], laidTests := true, laidLooks := .later }
def ConfigDuesUptoCardSaid : Prop := Claim7.holds Tryz.pinned (.plain (OpenSpec.upto configDuesSpec)) configDuesUptoCard

/-- THE SECOND FORM's CARD OF 'wakemanlaw16.ConfigNearest'. -/
def configNearestUptoCard : Claim7 := { stood := { row := configNearestUptoRow, standIns := [], harness := (true, "d1bc54e9762e096bcf00979b001cc927417950846a74857f8161b6c649a1b3d2"), looks := false }, kinds := [], alts := [], laidByText := true, laidKinds := [.data, .data, .listed, .data, .pinned], laidTests := true, laidLooks := .later }
def ConfigNearestUptoCardSaid : Prop := Claim7.holds Tryz.pinned (.plain (OpenSpec.upto configNearestSpec)) configNearestUptoCard

/-- THE SECOND FORM's CARD OF 'wakemanlaw16.ConfigOthers'. -/
def configOthersUptoCard : Claim7 := { stood := { row := configOthersUptoRow, standIns := [], harness := (true, "d1bc54e9762e096bcf00979b001cc927417950846a74857f8161b6c649a1b3d2"), looks := false }, kinds := [], alts := [], laidByText := true, laidKinds := [.data, .data, .listed, .data, .pinned], laidTests := true, laidLooks := .later }
def ConfigOthersUptoCardSaid : Prop := Claim7.holds Tryz.pinned (.plain (OpenSpec.upto configOthersSpec)) configOthersUptoCard

/-- THE SECOND FORM's CARD OF 'wakemanlaw16.ConfigChecks'. -/
def configChecksUptoCard : Claim7 := { stood := { row := configChecksUptoRow, standIns := [], harness := (true, "d1bc54e9762e096bcf00979b001cc927417950846a74857f8161b6c649a1b3d2"), looks := false }, kinds := [], alts := [], laidByText := true, laidKinds := [.data, .data, .listed, .data, .pinned], laidTests := true, laidLooks := .later }
def ConfigChecksUptoCardSaid : Prop := Claim7.holds Tryz.pinned (.plain (OpenSpec.upto configChecksSpec)) configChecksUptoCard

/-- THE SECOND FORM's CARD OF 'wakemanlaw16.ConfigCaps'. -/
def configCapsUptoCard : Claim7 := { stood := { row := configCapsUptoRow, standIns := [], harness := (true, "d1bc54e9762e096bcf00979b001cc927417950846a74857f8161b6c649a1b3d2"), looks := false }, kinds := [], alts := [], laidByText := true, laidKinds := [.data, .data, .listed, .data, .pinned], laidTests := true, laidLooks := .later }
def ConfigCapsUptoCardSaid : Prop := Claim7.holds Tryz.pinned (.plain (OpenSpec.upto configCapsSpec)) configCapsUptoCard

/-- THE SECOND FORM's CARD OF 'wakemanlaw16.ConfigKnown'. -/
def configKnownUptoCard : Claim7 := { stood := { row := configKnownUptoRow, standIns := [], harness := (true, "d1bc54e9762e096bcf00979b001cc927417950846a74857f8161b6c649a1b3d2"), looks := false }, kinds := [], alts := [], laidByText := true, laidKinds := [.data, .data, .listed, .data, .pinned], laidTests := true, laidLooks := .later }
def ConfigKnownUptoCardSaid : Prop := Claim7.holds Tryz.pinned (.plain (OpenSpec.upto configKnownSpec)) configKnownUptoCard

/-- THE SECOND FORM's CARD OF 'wakemanlaw16.ConfigFlaws'. -/
def configFlawsUptoCard : Claim7 := { stood := { row := configFlawsUptoRow, standIns := [], harness := (true, "d1bc54e9762e096bcf00979b001cc927417950846a74857f8161b6c649a1b3d2"), looks := false }, kinds := [], alts := [], laidByText := true, laidKinds := [.data, .data, .listed, .data, .pinned], laidTests := true, laidLooks := .later }
def ConfigFlawsUptoCardSaid : Prop := Claim7.holds Tryz.pinned (.plain (OpenSpec.upto configFlawsSpec)) configFlawsUptoCard

/-- THE SECOND FORM's CARD OF 'wakemanlaw16.ConfigSames'. -/
def configSamesUptoCard : Claim7 := { stood := { row := configSamesUptoRow, standIns := [], harness := (true, "d1bc54e9762e096bcf00979b001cc927417950846a74857f8161b6c649a1b3d2"), looks := false }, kinds := [], alts := [], laidByText := true, laidKinds := [.data, .data, .listed, .data, .pinned], laidTests := true, laidLooks := .later }
def ConfigSamesUptoCardSaid : Prop := Claim7.holds Tryz.pinned (.plain (OpenSpec.upto configSamesSpec)) configSamesUptoCard

/-- THE SECOND FORM's CARD OF 'wakemanlaw16.ConfigNames'. -/
def configNamesUptoCard : Claim7 := { stood := { row := configNamesUptoRow, standIns := [], harness := (true, "d1bc54e9762e096bcf00979b001cc927417950846a74857f8161b6c649a1b3d2"), looks := false }, kinds := [], alts := [], laidByText := true, laidKinds := [.data, .data, .listed, .data, .pinned], laidTests := true, laidLooks := .later }
def ConfigNamesUptoCardSaid : Prop := Claim7.holds Tryz.pinned (.plain (OpenSpec.upto configNamesSpec)) configNamesUptoCard
end Rows
end Go.Proofs.YtmdjfjdlehdhjaaGreatDoor
