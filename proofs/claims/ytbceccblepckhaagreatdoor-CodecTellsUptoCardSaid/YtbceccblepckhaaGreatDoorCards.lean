/-
  DERIVED. GIVEN WITH THE SEED: THE CARDS: each row of YtbceccblepckhaaGreatDoorRows.lean that lists a variable, with what it lists TIED to the program's text (the seventh form; the later family's looks); each row that meets fmt, with fmt's text TOLD by the authors' own Lean function (tested against real Go, not proved from fmt's source: count such statements apart). THE CARD IS WHAT COUNTS. Prove the row's statement (the work); the ties are given (YtbceccblepckhaaGreatDoorTie.lean); close each card by the builder's one call (the guide's Derived/Test/ToyasCard.lean, 'card_holds'). Laid BY PROGRAM, IN A SANDBOX (cutbox-door.mjs). By AI agents, Wed Nov 11 2026. No macro, syntax, notation, axiom, sorry.
-/
import Derived.Test.YtbceccblepckhaaGreatDoorRows
import GoSem.ClaimSeven
namespace Go.Proofs.YtbceccblepckhaaGreatDoor
namespace Rows

/-- THE TIED CARD OF 'presslaw5.CodecTells'. -/
def codecTellsCard : Claim7 := { stood := { row := codecTellsRow, standIns := [], harness := (true, "2a65f19406b52e41ca3f526a52f2ebecd49e7893f25b73426bca57bc2c2f2baf"), looks := false }, kinds := [], alts := [], laidByText := true, laidKinds := [.data, .pinned], laidTests := true, laidLooks := .later }
def CodecTellsCardSaid : Prop := Claim7.holds Tryz.pinned (.plain (OpenSpec.ofChange codecTellsSpec)) codecTellsCard

/-- THE SECOND FORM's CARD OF 'presslaw5.CodecTells'. -/
def codecTellsUptoCard : Claim7 := { stood := { row := codecTellsUptoRow, standIns := [], harness := (true, "2a65f19406b52e41ca3f526a52f2ebecd49e7893f25b73426bca57bc2c2f2baf"), looks := false }, kinds := [], alts := [], laidByText := true, laidKinds := [.data, .pinned], laidTests := true, laidLooks := .later }
def CodecTellsUptoCardSaid : Prop := Claim7.holds Tryz.pinned (.plain (OpenSpec.upto codecTellsSpec)) codecTellsUptoCard
end Rows
end Go.Proofs.YtbceccblepckhaaGreatDoor
