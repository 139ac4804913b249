/-
  DERIVED. GIVEN WITH THE SEED: THE CARDS: each row of YtcgnnmpgdnajnaaDoorRows.lean that lists a variable, with what it lists TIED to the program's text (the seventh form; the later family's looks); each row that meets fmt, with fmt's text TOLD by the authors' own Lean function (tested against real Go, not proved from fmt's source: count such statements apart). THE CARD IS WHAT COUNTS. Prove the row's statement (the work); the ties are given (YtcgnnmpgdnajnaaDoorTie.lean); close each card by the builder's one call (the guide's Derived/Test/ToyasCard.lean, 'card_holds'). Laid BY PROGRAM, IN A SANDBOX (cutbox-door.mjs). By AI agents, Wed Nov 11 2026. No macro, syntax, notation, axiom, sorry.
-/
import Derived.Test.YtcgnnmpgdnajnaaDoorRows
import GoSem.ClaimSeven
namespace Go.Proofs.YtcgnnmpgdnajnaaDoor
namespace Rows

/-- THE TIED CARD OF 'wakemanlaw04.BitsRanges'. -/
def bitsRangesCard : Claim7 := { stood := { row := bitsRangesRow, standIns := [], harness := (true, "d0b64213481a05021877743ba7c1487ebc311a51d70329220c1d46138bf9be8d"), looks := false }, kinds := [], alts := [], laidByText := true, laidKinds := [.data], laidTests := true, laidLooks := .later }
def BitsRangesCardSaid : Prop := Claim7.holds Tryd.pinned (.plain (OpenSpec.ofChange bitsRangesSpec)) bitsRangesCard

/-- THE TIED CARD OF 'wakemanlaw04.BitsParts'. -/
def bitsPartsCard : Claim7 := { stood := { row := bitsPartsRow, standIns := [], harness := (true, "d0b64213481a05021877743ba7c1487ebc311a51d70329220c1d46138bf9be8d"), looks := false }, kinds := [], alts := [], laidByText := true, laidKinds := [.data], laidTests := true, laidLooks := .later }
def BitsPartsCardSaid : Prop := Claim7.holds Tryd.pinned (.plain (OpenSpec.ofChange bitsPartsSpec)) bitsPartsCard

/-- THE TIED CARD OF 'wakemanlaw04.BitsMakes'. -/
def bitsMakesCard : Claim7 := { stood := { row := bitsMakesRow, standIns := [], harness := (true, "d0b64213481a05021877743ba7c1487ebc311a51d70329220c1d46138bf9be8d"), looks := false }, kinds := [], alts := [], laidByText := true, laidKinds := [.data], laidTests := true, laidLooks := .later }
def BitsMakesCardSaid : Prop := Claim7.holds Tryd.pinned (.plain (OpenSpec.ofChange bitsMakesSpec)) bitsMakesCard

/-- THE TIED CARD OF 'wakemanlaw04.BitsTurns'. -/
def bitsTurnsCard : Claim7 := { stood := { row := bitsTurnsRow, standIns := [], harness := (true, "d0b64213481a05021877743ba7c1487ebc311a51d70329220c1d46138bf9be8d"), looks := false }, kinds := [], alts := [], laidByText := true, laidKinds := [.data], laidTests := true, laidLooks := .later }
def BitsTurnsCardSaid : Prop := Claim7.holds Tryd.pinned (.plain (OpenSpec.ofChange bitsTurnsSpec)) bitsTurnsCard

/-- THE TIED CARD OF 'wakemanlaw04.BitsLists'. -/
def bitsListsCard : Claim7 := { stood := { row := bitsListsRow, standIns := [], harness := (true, "d0b64213481a05021877743ba7c1487ebc311a51d70329220c1d46138bf9be8d"), looks := false }, kinds := [], alts := [], laidByText := true, laidKinds := [.data], laidTests := true, laidLooks := .later }
def BitsListsCardSaid : Prop := Claim7.holds Tryd.pinned (.plain (OpenSpec.ofChange bitsListsSpec)) bitsListsCard

/-- THE TIED CARD OF 'wakemanlaw04.BitsInside'. -/
def bitsInsideCard : Claim7 := { stood := { row := bitsInsideRow, standIns := [], harness := (true, "d0b64213481a05021877743ba7c1487ebc311a51d70329220c1d46138bf9be8d"), looks := false }, kinds := [], alts := [], laidByText := true, laidKinds := [.data], laidTests := true, laidLooks := .later }
def BitsInsideCardSaid : Prop := Claim7.holds Tryd.pinned (.plain (OpenSpec.ofChange bitsInsideSpec)) bitsInsideCard

/-- THE TIED CARD OF 'wakemanlaw04.BitsNeighbours'. -/
def bitsNeighboursCard : Claim7 := { stood := { row := bitsNeighboursRow, standIns := [], harness := (true, "d0b64213481a05021877743ba7c1487ebc311a51d70329220c1d46138bf9be8d"), looks := false }, kinds := [], alts := [], laidByText := true, laidKinds := [.data], laidTests := true, laidLooks := .later }
def BitsNeighboursCardSaid : Prop := Claim7.holds Tryd.pinned (.plain (OpenSpec.ofChange bitsNeighboursSpec)) bitsNeighboursCard

/-- THE TIED CARD OF 'wakemanlaw04.BitsBack'. -/
def bitsBackCard : Claim7 := { stood := { row := bitsBackRow, standIns := [], harness := (true, "d0b64213481a05021877743ba7c1487ebc311a51d70329220c1d46138bf9be8d"), looks := false }, kinds := [], alts := [], laidByText := true, laidKinds := [.data], laidTests := true, laidLooks := .later }
def BitsBackCardSaid : Prop := Claim7.holds Tryd.pinned (.plain (OpenSpec.ofChange bitsBackSpec)) bitsBackCard

/-- THE TIED CARD OF 'wakemanlaw04.BitsAsks'. -/
def bitsAsksCard : Claim7 := { stood := { row := bitsAsksRow, standIns := [], harness := (true, "d0b64213481a05021877743ba7c1487ebc311a51d70329220c1d46138bf9be8d"), looks := false }, kinds := [], alts := [], laidByText := true, laidKinds := [.data], laidTests := true, laidLooks := .later }
def BitsAsksCardSaid : Prop := Claim7.holds Tryd.pinned (.plain (OpenSpec.ofChange bitsAsksSpec)) bitsAsksCard

/-- THE SECOND FORM's CARD OF 'wakemanlaw04.BitsRanges'. -/
def bitsRangesUptoCard : Claim7 := { stood := { row := bitsRangesUptoRow, standIns := [], harness := (true, "d0b64213481a05021877743ba7c1487ebc311a51d70329220c1d46138bf9be8d"), looks := false }, kinds := [], alts := [], laidByText := true, laidKinds := [.data], laidTests := true, laidLooks := .later }
def BitsRangesUptoCardSaid : Prop := Claim7.holds Tryd.pinned (.plain (OpenSpec.upto bitsRangesSpec)) bitsRangesUptoCard

/-- THE SECOND FORM's CARD OF 'wakemanlaw04.BitsParts'. -/
def bitsPartsUptoCard : Claim7 := { stood := { row := bitsPartsUptoRow, standIns := [], harness := (true, "d0b64213481a05021877743ba7c1487ebc311a51d70329220c1d46138bf9be8d"), looks := false }, kinds := [], alts := [], laidByText := true, laidKinds := [.data], laidTests := true, laidLooks := .later }
def BitsPartsUptoCardSaid : Prop := Claim7.holds Tryd.pinned (.plain (OpenSpec.upto bitsPartsSpec)) bitsPartsUptoCard

/-- THE SECOND FORM's CARD OF 'wakemanlaw04.BitsMakes'. -/
def bitsMakesUptoCard : Claim7 := { stood := { row := bitsMakesUptoRow, standIns := [], harness := (true, "d0b64213481a05021877743ba7c1487ebc311a51d70329220c1d46138bf9be8d"), looks := false }, kinds := [], alts := [], laidByText := true, laidKinds := [.data], laidTests := true, laidLooks := .later }
def BitsMakesUptoCardSaid : Prop := Claim7.holds Tryd.pinned (.plain (OpenSpec.upto bitsMakesSpec)) bitsMakesUptoCard

/-- THE SECOND FORM's CARD OF 'wakemanlaw04.BitsTurns'. -/
def bitsTurnsUptoCard : Claim7 := { stood := { row := bitsTurnsUptoRow, standIns := [], harness := (true, "d0b64213481a05021877743ba7c1487ebc311a51d70329220c1d46138bf9be8d"), looks := false }, kinds := [], alts := [], laidByText := true, laidKinds := [.data], laidTests := true, laidLooks := .later }
def BitsTurnsUptoCardSaid : Prop := Claim7.holds Tryd.pinned (.plain (OpenSpec.upto bitsTurnsSpec)) bitsTurnsUptoCard

/-- THE SECOND FORM's CARD OF 'wakemanlaw04.BitsLists'. -/
def bitsListsUptoCard : Claim7 := { stood := { row := bitsListsUptoRow, standIns := [], harness := (true, "d0b64213481a05021877743ba7c1487ebc311a51d70329220c1d46138bf9be8d"), looks := false }, kinds := [], alts := [], laidByText := true, laidKinds := [.data], laidTests := true, laidLooks := .later }
def BitsListsUptoCardSaid : Prop := Claim7.holds Tryd.pinned (.plain (OpenSpec.upto bitsListsSpec)) bitsListsUptoCard

/-- THE SECOND FORM's CARD OF 'wakemanlaw04.BitsInside'. -/
def bitsInsideUptoCard : Claim7 := { stood := { row := bitsInsideUptoRow, standIns := [], harness := (true, "d0b64213481a05021877743ba7c1487ebc311a51d70329220c1d46138bf9be8d"), looks := false }, kinds := [], alts := [], laidByText := true, laidKinds := [.data], laidTests := true, laidLooks := .later }
def BitsInsideUptoCardSaid : Prop := Claim7.holds Tryd.pinned (.plain (OpenSpec.upto bitsInsideSpec)) bitsInsideUptoCard

/-- THE SECOND FORM's CARD OF 'wakemanlaw04.BitsNeighbours'. -/
def bitsNeighboursUptoCard : Claim7 := { stood := { row := bitsNeighboursUptoRow, standIns := [], harness := (true, "d0b64213481a05021877743ba7c1487ebc311a51d70329220c1d46138bf9be8d"), looks := false }, kinds := [], alts := [], laidByText := true, laidKinds := [.data], laidTests := true, laidLooks := .later }
def BitsNeighboursUptoCardSaid : Prop := Claim7.holds Tryd.pinned (.plain (OpenSpec.upto bitsNeighboursSpec)) bitsNeighboursUptoCard

/-- THE SECOND FORM's CARD OF 'wakemanlaw04.BitsBack'. -/
def bitsBackUptoCard : Claim7 := { stood := { row := bitsBackUptoRow, standIns := [], harness := (true, "d0b64213481a05021877743ba7c1487ebc311a51d70329220c1d46138bf9be8d"), looks := false }, kinds := [], alts := [], laidByText := true, laidKinds := [.data], laidTests := true, laidLooks := .later }
def BitsBackUptoCardSaid : Prop := Claim7.holds Tryd.pinned (.plain (OpenSpec.upto bitsBackSpec)) bitsBackUptoCard

/-- THE SECOND FORM's CARD OF 'wakemanlaw04.BitsAsks'. -/
def bitsAsksUptoCard : Claim7 := { stood := { row := bitsAsksUptoRow, standIns := [], harness := (true, "d0b64213481a05021877743ba7c1487ebc311a51d70329220c1d46138bf9be8d"), looks := false }, kinds := [], alts := [], laidByText := true, laidKinds := [.data], laidTests := true, laidLooks := .later }
def BitsAsksUptoCardSaid : Prop := Claim7.holds Tryd.pinned (.plain (OpenSpec.upto bitsAsksSpec)) bitsAsksUptoCard
end Rows
end Go.Proofs.YtcgnnmpgdnajnaaDoor
