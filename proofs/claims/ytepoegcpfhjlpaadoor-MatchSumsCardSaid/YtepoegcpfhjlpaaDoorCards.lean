/-
  DERIVED. GIVEN WITH THE SEED: THE CARDS: each row of YtepoegcpfhjlpaaDoorRows.lean that lists a variable, with what it lists TIED to the program's text (the seventh form; the later family's looks); each row that meets fmt, with fmt's text TOLD by the authors' own Lean function (tested against real Go, not proved from fmt's source: count such statements apart). THE CARD IS WHAT COUNTS. Prove the row's statement (the work); the ties are given (YtepoegcpfhjlpaaDoorTie.lean); close each card by the builder's one call (the guide's Derived/Test/ToyasCard.lean, 'card_holds'). Laid BY PROGRAM, IN A SANDBOX (cutbox-door.mjs). By AI agents, Wed Nov 11 2026. No macro, syntax, notation, axiom, sorry.
-/
import Derived.Test.YtepoegcpfhjlpaaDoorRows
import GoSem.ClaimSeven
namespace Go.Proofs.YtepoegcpfhjlpaaDoor
namespace Rows

/-- THE TIED CARD OF 'wakemanlaw08.MatchLists'. -/
def matchListsCard : Claim7 := { stood := { row := matchListsRow, standIns := [], harness := (true, "a15fc79ee5af677577fd1f7909d5c40e62828472df7c5df126005493379a26ad"), looks := false }, kinds := [], alts := [], laidByText := true, laidKinds := [.data, .data, .listed, .data, .pinned], laidTests := true, laidLooks := .later }
def MatchListsCardSaid : Prop := Claim7.holds Tryd.pinned (.plain (OpenSpec.ofChange matchListsSpec)) matchListsCard

/-- THE TIED CARD OF 'wakemanlaw08.MatchCounts'. -/
def matchCountsCard : Claim7 := { stood := { row := matchCountsRow, standIns := [], harness := (true, "a15fc79ee5af677577fd1f7909d5c40e62828472df7c5df126005493379a26ad"), looks := false }, kinds := [], alts := [], laidByText := true, laidKinds := [.data, .data, .listed, .data, .pinned], laidTests := true, laidLooks := .later }
def MatchCountsCardSaid : Prop := Claim7.holds Tryd.pinned (.plain (OpenSpec.ofChange matchCountsSpec)) matchCountsCard

/-- THE TIED CARD OF 'wakemanlaw08.MatchOr'. -/
def matchOrCard : Claim7 := { stood := { row := matchOrRow, standIns := [], harness := (true, "a15fc79ee5af677577fd1f7909d5c40e62828472df7c5df126005493379a26ad"), looks := false }, kinds := [], alts := [], laidByText := true, laidKinds := [.data, .data, .listed, .data, .pinned], laidTests := true, laidLooks := .later }
def MatchOrCardSaid : Prop := Claim7.holds Tryd.pinned (.plain (OpenSpec.ofChange matchOrSpec)) matchOrCard

/-- THE TIED CARD OF 'wakemanlaw08.MatchZones'. -/
def matchZonesCard : Claim7 := { stood := { row := matchZonesRow, standIns := [], harness := (true, "a15fc79ee5af677577fd1f7909d5c40e62828472df7c5df126005493379a26ad"), looks := false }, kinds := [], alts := [], laidByText := true, laidKinds := [.data, .data, .listed, .data, .pinned], laidTests := true, laidLooks := .later }
def MatchZonesCardSaid : Prop := Claim7.holds Tryd.pinned (.plain (OpenSpec.ofChange matchZonesSpec)) matchZonesCard

/-- THE TIED CARD OF 'wakemanlaw08.MatchSums'. -/
def matchSumsCard : Claim7 := { stood := { row := matchSumsRow, standIns := [], harness := (true, "a15fc79ee5af677577fd1f7909d5c40e62828472df7c5df126005493379a26ad"), looks := false }, kinds := [], alts := [], laidByText := true, laidKinds := [.data, .data, .listed, .data, .pinned], laidTests := true, laidLooks := .later }
def MatchSumsCardSaid : Prop := Claim7.holds Tryd.pinned (.plain (OpenSpec.ofChange matchSumsSpec)) matchSumsCard

/-- THE TIED CARD OF 'wakemanlaw08.MatchWeeks'. -/
def matchWeeksCard : Claim7 := { stood := { row := matchWeeksRow, standIns := [], harness := (true, "a15fc79ee5af677577fd1f7909d5c40e62828472df7c5df126005493379a26ad"), looks := false }, kinds := [], alts := [], laidByText := true, laidKinds := [.data, .data, .listed, .data, .pinned], laidTests := true, laidLooks := .later }
def MatchWeeksCardSaid : Prop := Claim7.holds Tryd.pinned (.plain (OpenSpec.ofChange matchWeeksSpec)) matchWeeksCard

/-- THE TIED CARD OF 'wakemanlaw08.MatchIs'. -/
def matchIsCard : Claim7 := { stood := { row := matchIsRow, standIns := [], harness := (true, "a15fc79ee5af677577fd1f7909d5c40e62828472df7c5df126005493379a26ad"), looks := false }, kinds := [], alts := [], laidByText := true, laidKinds := [.data, .data, .listed, .data, .pinned], laidTests := true, laidLooks := .later }
def MatchIsCardSaid : Prop := Claim7.holds Tryd.pinned (.plain (OpenSpec.ofChange matchIsSpec)) matchIsCard

/-- THE TIED CARD OF 'wakemanlaw08.MatchEver'. -/
def matchEverCard : Claim7 := { stood := { row := matchEverRow, standIns := [], harness := (true, "a15fc79ee5af677577fd1f7909d5c40e62828472df7c5df126005493379a26ad"), looks := false }, kinds := [], alts := [], laidByText := true, laidKinds := [.data, .data, .listed, .data, .pinned], laidTests := true, laidLooks := .later }
def MatchEverCardSaid : Prop := Claim7.holds Tryd.pinned (.plain (OpenSpec.ofChange matchEverSpec)) matchEverCard

/-- THE TIED CARD OF 'wakemanlaw08.MatchNexts'. -/
def matchNextsCard : Claim7 := { stood := { row := matchNextsRow, standIns := [], harness := (true, "a15fc79ee5af677577fd1f7909d5c40e62828472df7c5df126005493379a26ad"), looks := false }, kinds := [], alts := [], laidByText := true, laidKinds := [.data, .data, .listed, .data, .pinned], laidTests := true, laidLooks := .later }
def MatchNextsCardSaid : Prop := Claim7.holds Tryd.pinned (.plain (OpenSpec.ofChange matchNextsSpec)) matchNextsCard

/-- THE TIED CARD OF 'wakemanlaw08.MatchNearest'. -/
def matchNearestCard : Claim7 := { stood := { row := matchNearestRow, standIns := [], harness := (true, "a15fc79ee5af677577fd1f7909d5c40e62828472df7c5df126005493379a26ad"), looks := false }, kinds := [], alts := [], laidByText := true, laidKinds := [.data, .data, .listed, .data, .pinned], laidTests := true, laidLooks := .later }
def MatchNearestCardSaid : Prop := Claim7.holds Tryd.pinned (.plain (OpenSpec.ofChange matchNearestSpec)) matchNearestCard

/-- THE TIED CARD OF 'wakemanlaw08.MatchTurns'. -/
def matchTurnsCard : Claim7 := { stood := { row := matchTurnsRow, standIns := [], harness := (true, "a15fc79ee5af677577fd1f7909d5c40e62828472df7c5df126005493379a26ad"), looks := false }, kinds := [], alts := [], laidByText := true, laidKinds := [.data, .data, .listed, .data, .pinned], laidTests := true, laidLooks := .later }
def MatchTurnsCardSaid : Prop := Claim7.holds Tryd.pinned (.plain (OpenSpec.ofChange matchTurnsSpec)) matchTurnsCard

/-- THE TIED CARD OF 'wakemanlaw08.MatchKnown'. -/
def matchKnownCard : Claim7 := { stood := { row := matchKnownRow, standIns := [], harness := (true, "a15fc79ee5af677577fd1f7909d5c40e62828472df7c5df126005493379a26ad"), looks := false }, kinds := [], alts := [], laidByText := true, laidKinds := [.data, .data, .listed, .data, .pinned], laidTests := true, laidLooks := .later }
def MatchKnownCardSaid : Prop := Claim7.holds Tryd.pinned (.plain (OpenSpec.ofChange matchKnownSpec)) matchKnownCard

/-- THE SECOND FORM's CARD OF 'wakemanlaw08.MatchLists'. -/
def matchListsUptoCard : Claim7 := { stood := { row := matchListsUptoRow, standIns := [], harness := (true, "a15fc79ee5af677577fd1f7909d5c40e62828472df7c5df126005493379a26ad"), looks := false }, kinds := [], alts := [], laidByText := true, laidKinds := [.data, .data, .listed, .data, .pinned], laidTests := true, laidLooks := .later }
def MatchListsUptoCardSaid : Prop := Claim7.holds Tryd.pinned (.plain (OpenSpec.upto matchListsSpec)) matchListsUptoCard

/-- THE SECOND FORM's CARD OF 'wakemanlaw08.MatchCounts'. -/
def matchCountsUptoCard : Claim7 := { stood := { row := matchCountsUptoRow, standIns := [], harness := (true, "a15fc79ee5af677577fd1f7909d5c40e62828472df7c5df126005493379a26ad"), looks := false }, kinds := [], alts := [], laidByText := true, laidKinds := [.data, .data, .listed, .data, .pinned], laidTests := true, laidLooks := .later }
def MatchCountsUptoCardSaid : Prop := Claim7.holds Tryd.pinned (.plain (OpenSpec.upto matchCountsSpec)) matchCountsUptoCard

/-- THE SECOND FORM's CARD OF 'wakemanlaw08.MatchOr'. -/
def matchOrUptoCard : Claim7 := { stood := { row := matchOrUptoRow, standIns := [], harness := (true, "a15fc79ee5af677577fd1f7909d5c40e62828472df7c5df126005493379a26ad"), looks := false }, kinds := [], alts := [], laidByText := true, laidKinds := [.data, .data, .listed, .data, .pinned], laidTests := true, laidLooks := .later }
def MatchOrUptoCardSaid : Prop := Claim7.holds Tryd.pinned (.plain (OpenSpec.upto matchOrSpec)) matchOrUptoCard

/-- THE SECOND FORM's CARD OF 'wakemanlaw08.MatchZones'. -/
def matchZonesUptoCard : Claim7 := { stood := { row := matchZonesUptoRow, standIns := [], harness := (true, "a15fc79ee5af677577fd1f7909d5c40e62828472df7c5df126005493379a26ad"), looks := false }, kinds := [], alts := [], laidByText := true, laidKinds := [.data, .data, .listed, .data, .pinned], laidTests := true, laidLooks := .later }
def MatchZonesUptoCardSaid : Prop := Claim7.holds Tryd.pinned (.plain (OpenSpec.upto matchZonesSpec)) matchZonesUptoCard

/-- THE SECOND FORM's CARD OF 'wakemanlaw08.MatchSums'. -/
def matchSumsUptoCard : Claim7 := { stood := { row := matchSumsUptoRow, standIns := [], harness := (true, "a15fc79ee5af677577fd1f7909d5c40e62828472df7c5df126005493379a26ad"), looks := false }, kinds := [], alts := [], laidByText := true, laidKinds := [.data, .data, .listed, .data, .pinned], laidTests := true, laidLooks := .later }
def MatchSumsUptoCardSaid : Prop := Claim7.holds Tryd.pinned (.plain (OpenSpec.upto matchSumsSpec)) matchSumsUptoCard

/-- THE SECOND FORM's CARD OF 'wakemanlaw08.MatchWeeks'. -/
def matchWeeksUptoCard : Claim7 := { stood := { row := matchWeeksUptoRow, standIns := [], harness := (true, "a15fc79ee5af677577fd1f7909d5c40e62828472df7c5df126005493379a26ad"), looks := false }, kinds := [], alts := [], laidByText := true, laidKinds := [.data, .data, .listed, .data, .pinned], laidTests := true, laidLooks := .later }
def MatchWeeksUptoCardSaid : Prop := Claim7.holds Tryd.pinned (.plain (OpenSpec.upto matchWeeksSpec)) matchWeeksUptoCard

/-- THE SECOND FORM's CARD OF 'wakemanlaw08.MatchIs'. -/
def matchIsUptoCard : Claim7 := { stood := { row := matchIsUptoRow, standIns := [], harness := (true, "a15fc79ee5af677577fd1f7909d5c40e62828472df7c5df126005493379a26ad"), looks := false }, kinds := [], alts := [], laidByText := true, laidKinds := [.data, .data, .listed, .data, .pinned], laidTests := true, laidLooks := .later }
def MatchIsUptoCardSaid : Prop := Claim7.holds Tryd.pinned (.plain (OpenSpec.upto matchIsSpec)) matchIsUptoCard

/-- THE SECOND FORM's CARD OF 'wakemanlaw08.MatchEver'. -/
def matchEverUptoCard : Claim7 := { stood := { row := matchEverUptoRow, standIns := [], harness := (true, "a15fc79ee5af677577fd1f7909d5c40e62828472df7c5df126005493379a26ad"), looks := false }, kinds := [], alts := [], laidByText := true, laidKinds := [.data, .data, .listed, .data, .pinned], laidTests := true, laidLooks := .later }
def MatchEverUptoCardSaid : Prop := Claim7.holds Tryd.pinned (.plain (OpenSpec.upto matchEverSpec)) matchEverUptoCard

/-- THE SECOND FORM's CARD OF 'wakemanlaw08.MatchNexts'. -/
def matchNextsUptoCard : Claim7 := { stood := { row := matchNextsUptoRow, standIns := [], harness := (true, "a15fc79ee5af677577fd1f7909d5c40e62828472df7c5df126005493379a26ad"), looks := false }, kinds := [], alts := [], laidByText := true, laidKinds := [.data, .data, .listed, .data, .pinned], laidTests := true, laidLooks := .later }
def MatchNextsUptoCardSaid : Prop := Claim7.holds Tryd.pinned (.plain (OpenSpec.upto matchNextsSpec)) matchNextsUptoCard

/-- THE SECOND FORM's CARD OF 'wakemanlaw08.MatchNearest'. -/
def matchNearestUptoCard : Claim7 := { stood := { row := matchNearestUptoRow, standIns := [], harness := (true, "a15fc79ee5af677577fd1f7909d5c40e62828472df7c5df126005493379a26ad"), looks := false }, kinds := [], alts := [], laidByText := true, laidKinds := [.data, .data, .listed, .data, .pinned], laidTests := true, laidLooks := .later }
def MatchNearestUptoCardSaid : Prop := Claim7.holds Tryd.pinned (.plain (OpenSpec.upto matchNearestSpec)) matchNearestUptoCard

/-- THE SECOND FORM's CARD OF 'wakemanlaw08.MatchTurns'. -/
def matchTurnsUptoCard : Claim7 := { stood := { row := matchTurnsUptoRow, standIns := [], harness := (true, "a15fc79ee5af677577fd1f7909d5c40e62828472df7c5df126005493379a26ad"), looks := false }, kinds := [], alts := [], laidByText := true, laidKinds := [.data, .data, .listed, .data, .pinned], laidTests := true, laidLooks := .later }
def MatchTurnsUptoCardSaid : Prop := Claim7.holds Tryd.pinned (.plain (OpenSpec.upto matchTurnsSpec)) matchTurnsUptoCard

/-- THE SECOND FORM's CARD OF 'wakemanlaw08.MatchKnown'. -/
def matchKnownUptoCard : Claim7 := { stood := { row := matchKnownUptoRow, standIns := [], harness := (true, "a15fc79ee5af677577fd1f7909d5c40e62828472df7c5df126005493379a26ad"), looks := false }, kinds := [], alts := [], laidByText := true, laidKinds := [.data, .data, .listed, .data, .pinned], laidTests := true, laidLooks := .later }
def MatchKnownUptoCardSaid : Prop := Claim7.holds Tryd.pinned (.plain (OpenSpec.upto matchKnownSpec)) matchKnownUptoCard
end Rows
end Go.Proofs.YtepoegcpfhjlpaaDoor
