/-
  DERIVED. GIVEN WITH THE SEED: THE CARDS: each row of YtihadbkjfocdoaaGreatDoorRows.lean that lists a variable, with what it lists TIED to the program's text (the seventh form; the later family's looks); each row that meets fmt, with fmt's text TOLD by the authors' own Lean function (tested against real Go, not proved from fmt's source: count such statements apart). THE CARD IS WHAT COUNTS. Prove the row's statement (the work); the ties are given (YtihadbkjfocdoaaGreatDoorTie.lean); close each card by the builder's one call (the guide's Derived/Test/ToyasCard.lean, 'card_holds'). Laid BY PROGRAM, IN A SANDBOX (cutbox-door.mjs). By AI agents, Wed Nov 11 2026. No macro, syntax, notation, axiom, sorry.
-/
import Derived.Test.YtihadbkjfocdoaaGreatDoorRows
import GoSem.ClaimSeven
namespace Go.Proofs.YtihadbkjfocdoaaGreatDoor
namespace Rows

/-- THE TIED CARD OF 'wakemanlaw16.ConfigKnown'. -/
def configKnownCard : Claim7 := { stood := { row := configKnownRow, standIns := [], harness := (true, "22e2695c4b7fcce772dd1586df25f861a3d4e403746d2aafa3fb2ceb364b145d"), looks := false }, kinds := [], alts := [], laidByText := true, laidKinds := [.data, .data, .listed, .data, .pinned], laidTests := true, laidLooks := .later }
def ConfigKnownCardSaid : Prop := Claim7.holds Tryz.pinned (.plain (OpenSpec.ofChange configKnownSpec)) configKnownCard

/-- THE TIED CARD OF 'wakemanlaw16.ConfigFlaws'. -/
def configFlawsCard : Claim7 := { stood := { row := configFlawsRow, standIns := [], harness := (true, "22e2695c4b7fcce772dd1586df25f861a3d4e403746d2aafa3fb2ceb364b145d"), looks := false }, kinds := [], alts := [], laidByText := true, laidKinds := [.data, .data, .listed, .data, .pinned], laidTests := true, laidLooks := .later }
def ConfigFlawsCardSaid : Prop := Claim7.holds Tryz.pinned (.plain (OpenSpec.ofChange configFlawsSpec)) configFlawsCard

/-- THE TIED CARD OF 'wakemanlaw16.ConfigSames'. -/
def configSamesCard : Claim7 := { stood := { row := configSamesRow, standIns := [], harness := (true, "22e2695c4b7fcce772dd1586df25f861a3d4e403746d2aafa3fb2ceb364b145d"), looks := false }, kinds := [], alts := [], laidByText := true, laidKinds := [.data, .data, .listed, .data, .pinned], laidTests := true, laidLooks := .later }
def ConfigSamesCardSaid : Prop := Claim7.holds Tryz.pinned (.plain (OpenSpec.ofChange configSamesSpec)) configSamesCard

/-- THE SECOND FORM's CARD OF 'wakemanlaw16.ConfigKnown'. -/
def configKnownUptoCard : Claim7 := { stood := { row := configKnownUptoRow, standIns := [], harness := (true, "22e2695c4b7fcce772dd1586df25f861a3d4e403746d2aafa3fb2ceb364b145d"), looks := false }, kinds := [], alts := [], laidByText := true, laidKinds := [.data, .data, .listed, .data, .pinned], laidTests := true, laidLooks := .later }
def ConfigKnownUptoCardSaid : Prop := Claim7.holds Tryz.pinned (.plain (OpenSpec.upto configKnownSpec)) configKnownUptoCard

/-- THE SECOND FORM's CARD OF 'wakemanlaw16.ConfigFlaws'. -/
def configFlawsUptoCard : Claim7 := { stood := { row := configFlawsUptoRow, standIns := [], harness := (true, "22e2695c4b7fcce772dd1586df25f861a3d4e403746d2aafa3fb2ceb364b145d"), looks := false }, kinds := [], alts := [], laidByText := true, laidKinds := [.data, .data, .listed, .data, .pinned], laidTests := true, laidLooks := .later }
def ConfigFlawsUptoCardSaid : Prop := Claim7.holds Tryz.pinned (.plain (OpenSpec.upto configFlawsSpec)) configFlawsUptoCard

/-- THE SECOND FORM's CARD OF 'wakemanlaw16.ConfigSames'. -/
def configSamesUptoCard : Claim7 := { stood := { row := configSamesUptoRow, standIns := [], harness := (true, "22e2695c4b7fcce772dd1586df25f861a3d4e403746d2aafa3fb2ceb364b145d"), looks := false }, kinds := [], alts := [], laidByText := true, laidKinds := [.data, .data, .listed, .data, .pinned], laidTests := true, laidLooks := .later }
def ConfigSamesUptoCardSaid : Prop := Claim7.holds Tryz.pinned (.plain (OpenSpec.upto configSamesSpec)) configSamesUptoCard
end Rows
end Go.Proofs.YtihadbkjfocdoaaGreatDoor
