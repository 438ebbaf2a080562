/-
  DERIVED. GIVEN WITH THE SEED: THE CARDS: each row of YtplgegffapikoabDoorRows.lean that lists a variable, with what it lists TIED to the program's text (the seventh form; the later family's looks); each row that meets fmt, with fmt's text TOLD by the authors' own Lean function (tested against real Go, not proved from fmt's source: count such statements apart). THE CARD IS WHAT COUNTS. Prove the row's statement (the work); the ties are given (YtplgegffapikoabDoorTie.lean); close each card by the builder's one call (the guide's Derived/Test/ToyasCard.lean, 'card_holds'). Laid BY PROGRAM, IN A SANDBOX (cutbox-door.mjs). By AI agents, Wed Nov 11 2026. No macro, syntax, notation, axiom, sorry.
-/
import Derived.Test.YtplgegffapikoabDoorRows
import GoSem.ClaimSeven
namespace Go.Proofs.YtplgegffapikoabDoor
namespace Rows

/-- THE TIED CARD OF 'presslaw2.SyntaxTells'. -/
def syntaxTellsCard : Claim7 := { stood := { row := syntaxTellsRow, standIns := [], harness := (true, "db2c33806f3f2002be3291d885cea37e2d7f6f3d90fbe15e4dbe869a9abd62ea"), looks := true }, kinds := [], alts := [], laidByText := true, laidKinds := [.data, .data, .data, .sentinel, .sentinel], laidTests := true, laidLooks := .later }
def SyntaxTellsCardSaid : Prop := Claim7.holds Tryd.pinned (.plain (OpenSpec.ofChange syntaxTellsSpec)) syntaxTellsCard

/-- THE TIED CARD OF 'presslaw2.SyntaxAgain'. -/
def syntaxAgainCard : Claim7 := { stood := { row := syntaxAgainRow, standIns := [], harness := (true, "db2c33806f3f2002be3291d885cea37e2d7f6f3d90fbe15e4dbe869a9abd62ea"), looks := true }, kinds := [], alts := [], laidByText := true, laidKinds := [.data, .data, .data, .sentinel, .sentinel], laidTests := true, laidLooks := .later }
def SyntaxAgainCardSaid : Prop := Claim7.holds Tryd.pinned (.plain (OpenSpec.ofChange syntaxAgainSpec)) syntaxAgainCard

/-- THE TIED CARD OF 'presslaw2.SyntaxGaps'. -/
def syntaxGapsCard : Claim7 := { stood := { row := syntaxGapsRow, standIns := [], harness := (true, "db2c33806f3f2002be3291d885cea37e2d7f6f3d90fbe15e4dbe869a9abd62ea"), looks := true }, kinds := [], alts := [], laidByText := true, laidKinds := [.data, .data, .data, .sentinel, .sentinel], laidTests := true, laidLooks := .later }
def SyntaxGapsCardSaid : Prop := Claim7.holds Tryd.pinned (.plain (OpenSpec.ofChange syntaxGapsSpec)) syntaxGapsCard

/-- THE TIED CARD OF 'presslaw3.LinkBarred'. -/
def linkBarredCard : Claim7 := { stood := { row := linkBarredRow, standIns := [], harness := (true, "db2c33806f3f2002be3291d885cea37e2d7f6f3d90fbe15e4dbe869a9abd62ea"), looks := true }, kinds := [], alts := [], laidByText := true, laidKinds := [.data, .data, .data, .sentinel, .sentinel], laidTests := true, laidLooks := .later }
def LinkBarredCardSaid : Prop := Claim7.holds Tryd.pinned (.plain (OpenSpec.ofChange linkBarredSpec)) linkBarredCard

/-- THE TIED CARD OF 'presslaw3.LinkRight'. -/
def linkRightCard : Claim7 := { stood := { row := linkRightRow, standIns := [], harness := (true, "db2c33806f3f2002be3291d885cea37e2d7f6f3d90fbe15e4dbe869a9abd62ea"), looks := true }, kinds := [], alts := [], laidByText := true, laidKinds := [.data, .data, .data, .sentinel, .sentinel], laidTests := true, laidLooks := .later }
def LinkRightCardSaid : Prop := Claim7.holds Tryd.pinned (.plain (OpenSpec.ofChange linkRightSpec)) linkRightCard

/-- THE TIED CARD OF 'presslaw6.PressSame'. -/
def pressSameCard : Claim7 := { stood := { row := pressSameRow, standIns := [], harness := (true, "db2c33806f3f2002be3291d885cea37e2d7f6f3d90fbe15e4dbe869a9abd62ea"), looks := true }, kinds := [], alts := [], laidByText := true, laidKinds := [.data, .pinned], laidTests := true, laidLooks := .later }
def PressSameCardSaid : Prop := Claim7.holds Tryd.pinned (.plain (OpenSpec.ofChange pressSameSpec)) pressSameCard

/-- THE SECOND FORM's CARD OF 'presslaw2.SyntaxTells'. -/
def syntaxTellsUptoCard : Claim7 := { stood := { row := syntaxTellsUptoRow, standIns := [], harness := (true, "db2c33806f3f2002be3291d885cea37e2d7f6f3d90fbe15e4dbe869a9abd62ea"), looks := true }, kinds := [], alts := [], laidByText := true, laidKinds := [.data, .data, .data, .sentinel, .sentinel], laidTests := true, laidLooks := .later }
def SyntaxTellsUptoCardSaid : Prop := Claim7.holds Tryd.pinned (.plain (OpenSpec.upto syntaxTellsSpec)) syntaxTellsUptoCard

/-- THE SECOND FORM's CARD OF 'presslaw2.SyntaxAgain'. -/
def syntaxAgainUptoCard : Claim7 := { stood := { row := syntaxAgainUptoRow, standIns := [], harness := (true, "db2c33806f3f2002be3291d885cea37e2d7f6f3d90fbe15e4dbe869a9abd62ea"), looks := true }, kinds := [], alts := [], laidByText := true, laidKinds := [.data, .data, .data, .sentinel, .sentinel], laidTests := true, laidLooks := .later }
def SyntaxAgainUptoCardSaid : Prop := Claim7.holds Tryd.pinned (.plain (OpenSpec.upto syntaxAgainSpec)) syntaxAgainUptoCard

/-- THE SECOND FORM's CARD OF 'presslaw2.SyntaxGaps'. -/
def syntaxGapsUptoCard : Claim7 := { stood := { row := syntaxGapsUptoRow, standIns := [], harness := (true, "db2c33806f3f2002be3291d885cea37e2d7f6f3d90fbe15e4dbe869a9abd62ea"), looks := true }, kinds := [], alts := [], laidByText := true, laidKinds := [.data, .data, .data, .sentinel, .sentinel], laidTests := true, laidLooks := .later }
def SyntaxGapsUptoCardSaid : Prop := Claim7.holds Tryd.pinned (.plain (OpenSpec.upto syntaxGapsSpec)) syntaxGapsUptoCard

/-- THE SECOND FORM's CARD OF 'presslaw3.LinkBarred'. -/
def linkBarredUptoCard : Claim7 := { stood := { row := linkBarredUptoRow, standIns := [], harness := (true, "db2c33806f3f2002be3291d885cea37e2d7f6f3d90fbe15e4dbe869a9abd62ea"), looks := true }, kinds := [], alts := [], laidByText := true, laidKinds := [.data, .data, .data, .sentinel, .sentinel], laidTests := true, laidLooks := .later }
def LinkBarredUptoCardSaid : Prop := Claim7.holds Tryd.pinned (.plain (OpenSpec.upto linkBarredSpec)) linkBarredUptoCard

/-- THE SECOND FORM's CARD OF 'presslaw3.LinkRight'. -/
def linkRightUptoCard : Claim7 := { stood := { row := linkRightUptoRow, standIns := [], harness := (true, "db2c33806f3f2002be3291d885cea37e2d7f6f3d90fbe15e4dbe869a9abd62ea"), looks := true }, kinds := [], alts := [], laidByText := true, laidKinds := [.data, .data, .data, .sentinel, .sentinel], laidTests := true, laidLooks := .later }
def LinkRightUptoCardSaid : Prop := Claim7.holds Tryd.pinned (.plain (OpenSpec.upto linkRightSpec)) linkRightUptoCard

/-- THE SECOND FORM's CARD OF 'presslaw6.PressSame'. -/
def pressSameUptoCard : Claim7 := { stood := { row := pressSameUptoRow, standIns := [], harness := (true, "db2c33806f3f2002be3291d885cea37e2d7f6f3d90fbe15e4dbe869a9abd62ea"), looks := true }, kinds := [], alts := [], laidByText := true, laidKinds := [.data, .pinned], laidTests := true, laidLooks := .later }
def PressSameUptoCardSaid : Prop := Claim7.holds Tryd.pinned (.plain (OpenSpec.upto pressSameSpec)) pressSameUptoCard
end Rows
end Go.Proofs.YtplgegffapikoabDoor
