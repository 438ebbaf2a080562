/-
  DERIVED. GIVEN WITH THE SEED: THE CARDS: each row of YtplgegffapikoaaDoorRows.lean that lists a variable, with what it lists TIED to the program's text (the seventh form; the later family's looks); each row that meets fmt, with fmt's text TOLD by the authors' own Lean function (tested against real Go, not proved from fmt's source: count such statements apart). THE CARD IS WHAT COUNTS. Prove the row's statement (the work); the ties are given (YtplgegffapikoaaDoorTie.lean); close each card by the builder's one call (the guide's Derived/Test/ToyasCard.lean, 'card_holds'). Laid BY PROGRAM, IN A SANDBOX (cutbox-door.mjs). By AI agents, Wed Nov 11 2026. No macro, syntax, notation, axiom, sorry.
-/
import Derived.Test.YtplgegffapikoaaDoorRows
import GoSem.ClaimSeven
namespace Go.Proofs.YtplgegffapikoaaDoor
namespace Rows

/-- THE TIED CARD OF 'presslaw4.BodyTells'. -/
def bodyTellsCard : Claim7 := { stood := { row := bodyTellsRow, standIns := [], harness := (true, "0a61a0942beaf350b1fd0736b9b0ea0b84e6ee4b238e28a21267a400f704e390"), looks := false }, kinds := [], alts := [], laidByText := true, laidKinds := [.data, .pinned], laidTests := true, laidLooks := .later }
def BodyTellsCardSaid : Prop := Claim7.holds Tryd.pinned (.plain (OpenSpec.ofChange bodyTellsSpec)) bodyTellsCard

/-- THE TIED CARD OF 'presslaw4.BodyThree'. -/
def bodyThreeCard : Claim7 := { stood := { row := bodyThreeRow, standIns := [], harness := (true, "0a61a0942beaf350b1fd0736b9b0ea0b84e6ee4b238e28a21267a400f704e390"), looks := false }, kinds := [], alts := [], laidByText := true, laidKinds := [.data, .pinned], laidTests := true, laidLooks := .later }
def BodyThreeCardSaid : Prop := Claim7.holds Tryd.pinned (.plain (OpenSpec.ofChange bodyThreeSpec)) bodyThreeCard

/-- THE TIED CARD OF 'presslaw4.BodyLast'. -/
def bodyLastCard : Claim7 := { stood := { row := bodyLastRow, standIns := [], harness := (true, "0a61a0942beaf350b1fd0736b9b0ea0b84e6ee4b238e28a21267a400f704e390"), looks := false }, kinds := [], alts := [], laidByText := true, laidKinds := [.data, .pinned], laidTests := true, laidLooks := .later }
def BodyLastCardSaid : Prop := Claim7.holds Tryd.pinned (.plain (OpenSpec.ofChange bodyLastSpec)) bodyLastCard

/-- THE SECOND FORM's CARD OF 'presslaw4.BodyTells'. -/
def bodyTellsUptoCard : Claim7 := { stood := { row := bodyTellsUptoRow, standIns := [], harness := (true, "0a61a0942beaf350b1fd0736b9b0ea0b84e6ee4b238e28a21267a400f704e390"), looks := false }, kinds := [], alts := [], laidByText := true, laidKinds := [.data, .pinned], laidTests := true, laidLooks := .later }
def BodyTellsUptoCardSaid : Prop := Claim7.holds Tryd.pinned (.plain (OpenSpec.upto bodyTellsSpec)) bodyTellsUptoCard

/-- THE SECOND FORM's CARD OF 'presslaw4.BodyThree'. -/
def bodyThreeUptoCard : Claim7 := { stood := { row := bodyThreeUptoRow, standIns := [], harness := (true, "0a61a0942beaf350b1fd0736b9b0ea0b84e6ee4b238e28a21267a400f704e390"), looks := false }, kinds := [], alts := [], laidByText := true, laidKinds := [.data, .pinned], laidTests := true, laidLooks := .later }
def BodyThreeUptoCardSaid : Prop := Claim7.holds Tryd.pinned (.plain (OpenSpec.upto bodyThreeSpec)) bodyThreeUptoCard

/-- THE SECOND FORM's CARD OF 'presslaw4.BodyLast'. -/
def bodyLastUptoCard : Claim7 := { stood := { row := bodyLastUptoRow, standIns := [], harness := (true, "0a61a0942beaf350b1fd0736b9b0ea0b84e6ee4b238e28a21267a400f704e390"), looks := false }, kinds := [], alts := [], laidByText := true, laidKinds := [.data, .pinned], laidTests := true, laidLooks := .later }
def BodyLastUptoCardSaid : Prop := Claim7.holds Tryd.pinned (.plain (OpenSpec.upto bodyLastSpec)) bodyLastUptoCard
end Rows
end Go.Proofs.YtplgegffapikoaaDoor
