/-
  DERIVED. GIVEN WITH THE SEED: THE CARDS: each row of YtpgckpafjiojfaaGreatDoorRows.lean that lists a variable, with what it lists TIED to the program's text (the seventh form; the later family's looks); each row that meets fmt, with fmt's text TOLD by the authors' own Lean function (tested against real Go, not proved from fmt's source: count such statements apart). THE CARD IS WHAT COUNTS. Prove the row's statement (the work); the ties are given (YtpgckpafjiojfaaGreatDoorTie.lean); close each card by the builder's one call (the guide's Derived/Test/ToyasCard.lean, 'card_holds'). Laid BY PROGRAM, IN A SANDBOX (cutbox-door.mjs). By AI agents, Wed Nov 11 2026. No macro, syntax, notation, axiom, sorry.
-/
import Derived.Test.YtpgckpafjiojfaaGreatDoorRows
import GoSem.ClaimSeven
namespace Go.Proofs.YtpgckpafjiojfaaGreatDoor
namespace Rows

/-- THE TIED CARD OF 'wakemanlaw35.AdmitHolds'. -/
def admitHoldsCard : Claim7 := { stood := { row := admitHoldsRow, standIns := [], harness := (true, "ef35b236d515efd123d14938da8f8eebee2ea9a81a14c07032bc5db3f65b8a15"), looks := false }, kinds := [], alts := [], laidByText := true, laidKinds := [.data, .data, .listed, .data, .pinned], laidTests := true, laidLooks := .later }
def AdmitHoldsCardSaid : Prop := Claim7.holds Tryz.pinned (.plain (OpenSpec.ofChange admitHoldsSpec)) admitHoldsCard

/-- THE TIED CARD OF 'wakemanlaw35.AdmitStays'. -/
def admitStaysCard : Claim7 := { stood := { row := admitStaysRow, standIns := [], harness := (true, "ef35b236d515efd123d14938da8f8eebee2ea9a81a14c07032bc5db3f65b8a15"), looks := false }, kinds := [], alts := [], laidByText := true, laidKinds := [.data, .data, .listed, .data, .pinned], laidTests := true, laidLooks := .later }
def AdmitStaysCardSaid : Prop := Claim7.holds Tryz.pinned (.plain (OpenSpec.ofChange admitStaysSpec)) admitStaysCard

/-- THE TIED CARD OF 'wakemanlaw35.AdmitPlays'. -/
def admitPlaysCard : Claim7 := { stood := { row := admitPlaysRow, standIns := [], harness := (true, "ef35b236d515efd123d14938da8f8eebee2ea9a81a14c07032bc5db3f65b8a15"), looks := false }, kinds := [], alts := [], laidByText := true, laidKinds := [.data, .data, .listed, .data, .pinned], laidTests := true, laidLooks := .later }
def AdmitPlaysCardSaid : Prop := Claim7.holds Tryz.pinned (.plain (OpenSpec.ofChange admitPlaysSpec)) admitPlaysCard

/-- THE TIED CARD OF 'wakemanlaw35.AdmitRestores'. -/
def admitRestoresCard : Claim7 := { stood := { row := admitRestoresRow, standIns := [], harness := (true, "ef35b236d515efd123d14938da8f8eebee2ea9a81a14c07032bc5db3f65b8a15"), looks := false }, kinds := [], alts := [], laidByText := true, laidKinds := [.data, .data, .listed, .data, .pinned], laidTests := true, laidLooks := .later }
def AdmitRestoresCardSaid : Prop := Claim7.holds Tryz.pinned (.plain (OpenSpec.ofChange admitRestoresSpec)) admitRestoresCard

/-- THE TIED CARD OF 'wakemanlaw35.AdmitAgain'. -/
def admitAgainCard : Claim7 := { stood := { row := admitAgainRow, standIns := [], harness := (true, "ef35b236d515efd123d14938da8f8eebee2ea9a81a14c07032bc5db3f65b8a15"), looks := false }, kinds := [], alts := [], laidByText := true, laidKinds := [.data, .data, .listed, .data, .pinned], laidTests := true, laidLooks := .later }
def AdmitAgainCardSaid : Prop := Claim7.holds Tryz.pinned (.plain (OpenSpec.ofChange admitAgainSpec)) admitAgainCard

/-- THE SECOND FORM's CARD OF 'wakemanlaw35.AdmitHolds'. -/
def admitHoldsUptoCard : Claim7 := { stood := { row := admitHoldsUptoRow, standIns := [], harness := (true, "ef35b236d515efd123d14938da8f8eebee2ea9a81a14c07032bc5db3f65b8a15"), looks := false }, kinds := [], alts := [], laidByText := true, laidKinds := [.data, .data, .listed, .data, .pinned], laidTests := true, laidLooks := .later }
def AdmitHoldsUptoCardSaid : Prop := Claim7.holds Tryz.pinned (.plain (OpenSpec.upto admitHoldsSpec)) admitHoldsUptoCard

/-- THE SECOND FORM's CARD OF 'wakemanlaw35.AdmitStays'. -/
def admitStaysUptoCard : Claim7 := { stood := { row := admitStaysUptoRow, standIns := [], harness := (true, "ef35b236d515efd123d14938da8f8eebee2ea9a81a14c07032bc5db3f65b8a15"), looks := false }, kinds := [], alts := [], laidByText := true, laidKinds := [.data, .data, .listed, .data, .pinned], laidTests := true, laidLooks := .later }
def AdmitStaysUptoCardSaid : Prop := Claim7.holds Tryz.pinned (.plain (OpenSpec.upto admitStaysSpec)) admitStaysUptoCard

/-- THE SECOND FORM's CARD OF 'wakemanlaw35.AdmitPlays'. -/
def admitPlaysUptoCard : Claim7 := { stood := { row := admitPlaysUptoRow, standIns := [], harness := (true, "ef35b236d515efd123d14938da8f8eebee2ea9a81a14c07032bc5db3f65b8a15"), looks := false }, kinds := [], alts := [], laidByText := true, laidKinds := [.data, .data, .listed, .data, .pinned], laidTests := true, laidLooks := .later }
def AdmitPlaysUptoCardSaid : Prop := Claim7.holds Tryz.pinned (.plain (OpenSpec.upto admitPlaysSpec)) admitPlaysUptoCard

/-- THE SECOND FORM's CARD OF 'wakemanlaw35.AdmitRestores'. -/
def admitRestoresUptoCard : Claim7 := { stood := { row := admitRestoresUptoRow, standIns := [], harness := (true, "ef35b236d515efd123d14938da8f8eebee2ea9a81a14c07032bc5db3f65b8a15"), looks := false }, kinds := [], alts := [], laidByText := true, laidKinds := [.data, .data, .listed, .data, .pinned], laidTests := true, laidLooks := .later }
def AdmitRestoresUptoCardSaid : Prop := Claim7.holds Tryz.pinned (.plain (OpenSpec.upto admitRestoresSpec)) admitRestoresUptoCard

/-- THE SECOND FORM's CARD OF 'wakemanlaw35.AdmitAgain'. -/
def admitAgainUptoCard : Claim7 := { stood := { row := admitAgainUptoRow, standIns := [], harness := (true, "ef35b236d515efd123d14938da8f8eebee2ea9a81a14c07032bc5db3f65b8a15"), looks := false }, kinds := [], alts := [], laidByText := true, laidKinds := [.data, .data, .listed, .data, .pinned], laidTests := true, laidLooks := .later }
def AdmitAgainUptoCardSaid : Prop := Claim7.holds Tryz.pinned (.plain (OpenSpec.upto admitAgainSpec)) admitAgainUptoCard
end Rows
end Go.Proofs.YtpgckpafjiojfaaGreatDoor
