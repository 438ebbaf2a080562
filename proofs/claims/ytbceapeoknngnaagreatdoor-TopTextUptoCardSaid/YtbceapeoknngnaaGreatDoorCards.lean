/-
  DERIVED. GIVEN WITH THE SEED: THE CARDS: each row of YtbceapeoknngnaaGreatDoorRows.lean that lists a variable, with what it lists TIED to the program's text (the seventh form; the later family's looks); each row that meets fmt, with fmt's text TOLD by the authors' own Lean function (tested against real Go, not proved from fmt's source: count such statements apart). THE CARD IS WHAT COUNTS. Prove the row's statement (the work); the ties are given (YtbceapeoknngnaaGreatDoorTie.lean); close each card by the builder's one call (the guide's Derived/Test/ToyasCard.lean, 'card_holds'). Laid BY PROGRAM, IN A SANDBOX (cutbox-door.mjs). By AI agents, Wed Nov 11 2026. No macro, syntax, notation, axiom, sorry.
-/
import Derived.Test.YtbceapeoknngnaaGreatDoorRows
import GoSem.ClaimSeven
namespace Go.Proofs.YtbceapeoknngnaaGreatDoor
namespace Rows

/-- THE TIED CARD OF 'presstop.TopOld'. -/
def topOldCard : Claim7 := { stood := { row := topOldRow, standIns := [], harness := (true, "9d131015b53dcf507a259a88b7af1edc4e5f541306a7a5dbf61accead081458a"), looks := true }, kinds := [], alts := [], laidByText := true, laidKinds := [.data, .data, .data, .data, .sentinel, .sentinel, .pinned], laidTests := true, laidLooks := .later }
def TopOldCardSaid : Prop := Claim7.holds Tryz.pinned (.plain (OpenSpec.ofChange topOldSpec)) topOldCard

/-- THE TIED CARD OF 'presstop.TopUser'. -/
def topUserCard : Claim7 := { stood := { row := topUserRow, standIns := [], harness := (true, "9d131015b53dcf507a259a88b7af1edc4e5f541306a7a5dbf61accead081458a"), looks := true }, kinds := [], alts := [], laidByText := true, laidKinds := [.data, .data, .data, .data, .sentinel, .sentinel, .pinned], laidTests := true, laidLooks := .later }
def TopUserCardSaid : Prop := Claim7.holds Tryz.pinned (.plain (OpenSpec.ofChange topUserSpec)) topUserCard

/-- THE TIED CARD OF 'presslaw5.CodecTells'. -/
def codecTellsCard : Claim7 := { stood := { row := codecTellsRow, standIns := [], harness := (true, "9d131015b53dcf507a259a88b7af1edc4e5f541306a7a5dbf61accead081458a"), looks := true }, kinds := [], alts := [], laidByText := true, laidKinds := [.data, .pinned], laidTests := true, laidLooks := .later }
def CodecTellsCardSaid : Prop := Claim7.holds Tryz.pinned (.plain (OpenSpec.ofChange codecTellsSpec)) codecTellsCard

/-- THE TIED CARD OF 'presslaw5.CodecTurns'. -/
def codecTurnsCard : Claim7 := { stood := { row := codecTurnsRow, standIns := [], harness := (true, "9d131015b53dcf507a259a88b7af1edc4e5f541306a7a5dbf61accead081458a"), looks := true }, kinds := [], alts := [], laidByText := true, laidKinds := [.data, .pinned], laidTests := true, laidLooks := .later }
def CodecTurnsCardSaid : Prop := Claim7.holds Tryz.pinned (.plain (OpenSpec.ofChange codecTurnsSpec)) codecTurnsCard

/-- THE TIED CARD OF 'presslaw5.CodecUnpacked'. -/
def codecUnpackedCard : Claim7 := { stood := { row := codecUnpackedRow, standIns := [], harness := (true, "9d131015b53dcf507a259a88b7af1edc4e5f541306a7a5dbf61accead081458a"), looks := true }, kinds := [], alts := [], laidByText := true, laidKinds := [.data, .pinned], laidTests := true, laidLooks := .later }
def CodecUnpackedCardSaid : Prop := Claim7.holds Tryz.pinned (.plain (OpenSpec.ofChange codecUnpackedSpec)) codecUnpackedCard

/-- THE TIED CARD OF 'presslaw5.CodecUnknown'. -/
def codecUnknownCard : Claim7 := { stood := { row := codecUnknownRow, standIns := [], harness := (true, "9d131015b53dcf507a259a88b7af1edc4e5f541306a7a5dbf61accead081458a"), looks := true }, kinds := [], alts := [], laidByText := true, laidKinds := [.data, .pinned], laidTests := true, laidLooks := .later }
def CodecUnknownCardSaid : Prop := Claim7.holds Tryz.pinned (.plain (OpenSpec.ofChange codecUnknownSpec)) codecUnknownCard

/-- THE TIED CARD OF 'presslaw5.CodecJoined'. -/
def codecJoinedCard : Claim7 := { stood := { row := codecJoinedRow, standIns := [], harness := (true, "9d131015b53dcf507a259a88b7af1edc4e5f541306a7a5dbf61accead081458a"), looks := true }, kinds := [], alts := [], laidByText := true, laidKinds := [.data, .pinned], laidTests := true, laidLooks := .later }
def CodecJoinedCardSaid : Prop := Claim7.holds Tryz.pinned (.plain (OpenSpec.ofChange codecJoinedSpec)) codecJoinedCard

/-- THE TIED CARD OF 'presstop.TopDeep'. -/
def topDeepCard : Claim7 := { stood := { row := topDeepRow, standIns := [], harness := (true, "9d131015b53dcf507a259a88b7af1edc4e5f541306a7a5dbf61accead081458a"), looks := true }, kinds := [], alts := [], laidByText := true, laidKinds := [.data, .data, .data, .data, .sentinel, .sentinel, .pinned], laidTests := true, laidLooks := .later }
def TopDeepCardSaid : Prop := Claim7.holds Tryz.pinned (.plain (OpenSpec.ofChange topDeepSpec)) topDeepCard

/-- THE TIED CARD OF 'presstop.TopText'. -/
def topTextCard : Claim7 := { stood := { row := topTextRow, standIns := [], harness := (true, "9d131015b53dcf507a259a88b7af1edc4e5f541306a7a5dbf61accead081458a"), looks := true }, kinds := [], alts := [], laidByText := true, laidKinds := [.data, .data, .data, .data, .sentinel, .sentinel, .pinned], laidTests := true, laidLooks := .later }
def TopTextCardSaid : Prop := Claim7.holds Tryz.pinned (.plain (OpenSpec.ofChange topTextSpec)) topTextCard

/-- THE SECOND FORM's CARD OF 'presstop.TopOld'. -/
def topOldUptoCard : Claim7 := { stood := { row := topOldUptoRow, standIns := [], harness := (true, "9d131015b53dcf507a259a88b7af1edc4e5f541306a7a5dbf61accead081458a"), looks := true }, kinds := [], alts := [], laidByText := true, laidKinds := [.data, .data, .data, .data, .sentinel, .sentinel, .pinned], laidTests := true, laidLooks := .later }
def TopOldUptoCardSaid : Prop := Claim7.holds Tryz.pinned (.plain (OpenSpec.upto topOldSpec)) topOldUptoCard

/-- THE SECOND FORM's CARD OF 'presstop.TopUser'. -/
def topUserUptoCard : Claim7 := { stood := { row := topUserUptoRow, standIns := [], harness := (true, "9d131015b53dcf507a259a88b7af1edc4e5f541306a7a5dbf61accead081458a"), looks := true }, kinds := [], alts := [], laidByText := true, laidKinds := [.data, .data, .data, .data, .sentinel, .sentinel, .pinned], laidTests := true, laidLooks := .later }
def TopUserUptoCardSaid : Prop := Claim7.holds Tryz.pinned (.plain (OpenSpec.upto topUserSpec)) topUserUptoCard

/-- THE SECOND FORM's CARD OF 'presslaw5.CodecTells'. -/
def codecTellsUptoCard : Claim7 := { stood := { row := codecTellsUptoRow, standIns := [], harness := (true, "9d131015b53dcf507a259a88b7af1edc4e5f541306a7a5dbf61accead081458a"), looks := true }, kinds := [], alts := [], laidByText := true, laidKinds := [.data, .pinned], laidTests := true, laidLooks := .later }
def CodecTellsUptoCardSaid : Prop := Claim7.holds Tryz.pinned (.plain (OpenSpec.upto codecTellsSpec)) codecTellsUptoCard

/-- THE SECOND FORM's CARD OF 'presslaw5.CodecTurns'. -/
def codecTurnsUptoCard : Claim7 := { stood := { row := codecTurnsUptoRow, standIns := [], harness := (true, "9d131015b53dcf507a259a88b7af1edc4e5f541306a7a5dbf61accead081458a"), looks := true }, kinds := [], alts := [], laidByText := true, laidKinds := [.data, .pinned], laidTests := true, laidLooks := .later }
def CodecTurnsUptoCardSaid : Prop := Claim7.holds Tryz.pinned (.plain (OpenSpec.upto codecTurnsSpec)) codecTurnsUptoCard

/-- THE SECOND FORM's CARD OF 'presslaw5.CodecUnpacked'. -/
def codecUnpackedUptoCard : Claim7 := { stood := { row := codecUnpackedUptoRow, standIns := [], harness := (true, "9d131015b53dcf507a259a88b7af1edc4e5f541306a7a5dbf61accead081458a"), looks := true }, kinds := [], alts := [], laidByText := true, laidKinds := [.data, .pinned], laidTests := true, laidLooks := .later }
def CodecUnpackedUptoCardSaid : Prop := Claim7.holds Tryz.pinned (.plain (OpenSpec.upto codecUnpackedSpec)) codecUnpackedUptoCard

/-- THE SECOND FORM's CARD OF 'presslaw5.CodecUnknown'. -/
def codecUnknownUptoCard : Claim7 := { stood := { row := codecUnknownUptoRow, standIns := [], harness := (true, "9d131015b53dcf507a259a88b7af1edc4e5f541306a7a5dbf61accead081458a"), looks := true }, kinds := [], alts := [], laidByText := true, laidKinds := [.data, .pinned], laidTests := true, laidLooks := .later }
def CodecUnknownUptoCardSaid : Prop := Claim7.holds Tryz.pinned (.plain (OpenSpec.upto codecUnknownSpec)) codecUnknownUptoCard

/-- THE SECOND FORM's CARD OF 'presslaw5.CodecJoined'. -/
def codecJoinedUptoCard : Claim7 := { stood := { row := codecJoinedUptoRow, standIns := [], harness := (true, "9d131015b53dcf507a259a88b7af1edc4e5f541306a7a5dbf61accead081458a"), looks := true }, kinds := [], alts := [], laidByText := true, laidKinds := [.data, .pinned], laidTests := true, laidLooks := .later }
def CodecJoinedUptoCardSaid : Prop := Claim7.holds Tryz.pinned (.plain (OpenSpec.upto codecJoinedSpec)) codecJoinedUptoCard

/-- THE SECOND FORM's CARD OF 'presstop.TopDeep'. -/
def topDeepUptoCard : Claim7 := { stood := { row := topDeepUptoRow, standIns := [], harness := (true, "9d131015b53dcf507a259a88b7af1edc4e5f541306a7a5dbf61accead081458a"), looks := true }, kinds := [], alts := [], laidByText := true, laidKinds := [.data, .data, .data, .data, .sentinel, .sentinel, .pinned], laidTests := true, laidLooks := .later }
def TopDeepUptoCardSaid : Prop := Claim7.holds Tryz.pinned (.plain (OpenSpec.upto topDeepSpec)) topDeepUptoCard

/-- THE SECOND FORM's CARD OF 'presstop.TopText'. -/
def topTextUptoCard : Claim7 := { stood := { row := topTextUptoRow, standIns := [], harness := (true, "9d131015b53dcf507a259a88b7af1edc4e5f541306a7a5dbf61accead081458a"), looks := true }, kinds := [], alts := [], laidByText := true, laidKinds := [.data, .data, .data, .data, .sentinel, .sentinel, .pinned], laidTests := true, laidLooks := .later }
def TopTextUptoCardSaid : Prop := Claim7.holds Tryz.pinned (.plain (OpenSpec.upto topTextSpec)) topTextUptoCard
end Rows
end Go.Proofs.YtbceapeoknngnaaGreatDoor
