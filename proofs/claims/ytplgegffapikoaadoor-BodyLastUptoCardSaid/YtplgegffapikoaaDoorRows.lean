/-
  NARROWER THAN 'FOR EVERY INPUT', by the rows' own cells (each row's printed sentence says how): BodyTells: loops, laid · BodyThree: loops, laid · BodyLast: loops, laid.
  DERIVED. THE GIVEN ROWS OF THIS SEAT. 3 by the template 'for every input the law returns true; each argument reads behind the call as it read before'; 0 by the template 'total and deterministic' (their statements: YtplgegffapikoaaDoorTotals.lean).
  GIVEN WITH THE SEED: the statements are not yours to turn. If you find one false, say at which input.
  Laid BY PROGRAM, IN A SANDBOX (cutbox-rows.mjs): the forced cells as the released guide's own fill.sh prints them over the translation 5b0c7c26ea712a53… (all of the seat's roots in one cut). By AI agents, Wed Nov 11 2026. No macro, syntax, notation, axiom, sorry.
-/
import Derived.Test.YtplgegffapikoaaDoorChecked
import GoSem.PinnedTables
import GoSem.Claim
import GoSem.ClaimJoined
import GoSem.ClaimMapViews
import Derived.JoinedTies
import Derived.KernelRfl
namespace Go.Proofs.YtplgegffapikoaaDoor
/- THE CELL 'sum', in the pinned program and in every row, IS THE sha256 OF THE DUMP (.gsa) THAT YtplgegffapikoaaDoorProg.lean LOADS. Nothing in Lean hashes anything: it is a label: what it is worth is what the hold of that sum in a sandbox is worth. -/
noncomputable def Tryd.pinned : Pinned := { name := "ytplgegffapikoaadoor", sum := "5b0c7c26ea712a53be5c69b6ed950ce7fa1c443864c2c6290c3636d7dcaed643", checked := Tryd.checked }
namespace Rows
def none {H : Type} : Left H := { results := [], args := [] }

/- WHAT THE LISTED PACKAGE-LEVEL VARIABLES READ AS WHEN THE CALL BEGINS. Each datum BY PROGRAM (the guide's laid-datum.mjs) off the statement by which the dump's own 'gosem.cut.vars' lays the variable. In a bare row this is a premise. The card (YtplgegffapikoaaDoorCards.lean) ties it to the program's text. -/
def laid_unicode_utf8_acceptRanges {H : Type} : DataW H := .agg [.agg [.lit (.int .u8 128), .lit (.int .u8 191)], .agg [.lit (.int .u8 160), .lit (.int .u8 191)], .agg [.lit (.int .u8 128), .lit (.int .u8 159)], .agg [.lit (.int .u8 144), .lit (.int .u8 191)], .agg [.lit (.int .u8 128), .lit (.int .u8 143)], .agg [.lit (.int .u8 0), .lit (.int .u8 0)], .agg [.lit (.int .u8 0), .lit (.int .u8 0)], .agg [.lit (.int .u8 0), .lit (.int .u8 0)], .agg [.lit (.int .u8 0), .lit (.int .u8 0)], .agg [.lit (.int .u8 0), .lit (.int .u8 0)], .agg [.lit (.int .u8 0), .lit (.int .u8 0)], .agg [.lit (.int .u8 0), .lit (.int .u8 0)], .agg [.lit (.int .u8 0), .lit (.int .u8 0)], .agg [.lit (.int .u8 0), .lit (.int .u8 0)], .agg [.lit (.int .u8 0), .lit (.int .u8 0)], .agg [.lit (.int .u8 0), .lit (.int .u8 0)]]
/-- One of Go's own tables, pinned by name: the form's constant. -/
def laid_unicode_utf8_first : DataW Unit := Go.Pinned.utf8First

/-- 'presslaw4.BodyTells': WHATEVER THE INPUT: true; the input reads as it did. -/
def bodyTellsSpec : ChangeSpec := { name := "bodyTells", fn := fun _ => fun
  | [d1, d2, d3, d4, d5, d6, d7] => { results := [.lit (.bool true)], args := [d1, d2, d3, d4, d5, d6, d7] }
  | _ => none }
def bodyTellsRow : OpenClaim := { program := "ytplgegffapikoaadoor", sum := "5b0c7c26ea712a53be5c69b6ed950ce7fa1c443864c2c6290c3636d7dcaed643", func := "fieldpress/presslaw4.BodyTells", spec := "bodyTells", inPlace := ["slices.overlaps[fieldpress/api.Value]"], unfollowed := true, recurses := true, named := ["unicode/utf8.first", "unicode/utf8.acceptRanges"], loops := true, apart := false, laid := [("unicode/utf8.acceptRanges", laid_unicode_utf8_acceptRanges), ("unicode/utf8.first", laid_unicode_utf8_first)] }
def BodyTellsSaid : Prop := bodyTellsRow.holds Tryd.pinned (OpenSpec.ofChange bodyTellsSpec)

/-- ITS FALSE NEIGHBOUR: 'it returns false'. Refute it at one input. -/
def bodyTellsWrong : ChangeSpec := { name := "bodyTells", fn := fun _ => fun
  | [d1, d2, d3, d4, d5, d6, d7] => { results := [.lit (.bool false)], args := [d1, d2, d3, d4, d5, d6, d7] }
  | _ => none }
def BodyTellsWrongFalsely : Prop := bodyTellsRow.holds Tryd.pinned (OpenSpec.ofChange bodyTellsWrong)

/-- 'presslaw4.BodyThree': WHATEVER THE INPUT: true; the input reads as it did. -/
def bodyThreeSpec : ChangeSpec := { name := "bodyThree", fn := fun _ => fun
  | [d1, d2, d3, d4, d5] => { results := [.lit (.bool true)], args := [d1, d2, d3, d4, d5] }
  | _ => none }
def bodyThreeRow : OpenClaim := { program := "ytplgegffapikoaadoor", sum := "5b0c7c26ea712a53be5c69b6ed950ce7fa1c443864c2c6290c3636d7dcaed643", func := "fieldpress/presslaw4.BodyThree", spec := "bodyThree", inPlace := ["slices.overlaps[fieldpress/api.Value]"], unfollowed := true, recurses := true, named := ["unicode/utf8.first", "unicode/utf8.acceptRanges"], loops := true, apart := false, laid := [("unicode/utf8.acceptRanges", laid_unicode_utf8_acceptRanges), ("unicode/utf8.first", laid_unicode_utf8_first)] }
def BodyThreeSaid : Prop := bodyThreeRow.holds Tryd.pinned (OpenSpec.ofChange bodyThreeSpec)

/-- ITS FALSE NEIGHBOUR: 'it returns false'. Refute it at one input. -/
def bodyThreeWrong : ChangeSpec := { name := "bodyThree", fn := fun _ => fun
  | [d1, d2, d3, d4, d5] => { results := [.lit (.bool false)], args := [d1, d2, d3, d4, d5] }
  | _ => none }
def BodyThreeWrongFalsely : Prop := bodyThreeRow.holds Tryd.pinned (OpenSpec.ofChange bodyThreeWrong)

/-- 'presslaw4.BodyLast': WHATEVER THE INPUT: true; the input reads as it did. -/
def bodyLastSpec : ChangeSpec := { name := "bodyLast", fn := fun _ => fun
  | [d1, d2, d3, d4] => { results := [.lit (.bool true)], args := [d1, d2, d3, d4] }
  | _ => none }
def bodyLastRow : OpenClaim := { program := "ytplgegffapikoaadoor", sum := "5b0c7c26ea712a53be5c69b6ed950ce7fa1c443864c2c6290c3636d7dcaed643", func := "fieldpress/presslaw4.BodyLast", spec := "bodyLast", inPlace := ["slices.overlaps[fieldpress/api.Value]"], unfollowed := true, recurses := true, named := ["unicode/utf8.first", "unicode/utf8.acceptRanges"], loops := true, apart := false, laid := [("unicode/utf8.acceptRanges", laid_unicode_utf8_acceptRanges), ("unicode/utf8.first", laid_unicode_utf8_first)] }
def BodyLastSaid : Prop := bodyLastRow.holds Tryd.pinned (OpenSpec.ofChange bodyLastSpec)

/-- ITS FALSE NEIGHBOUR: 'it returns false'. Refute it at one input. -/
def bodyLastWrong : ChangeSpec := { name := "bodyLast", fn := fun _ => fun
  | [d1, d2, d3, d4] => { results := [.lit (.bool false)], args := [d1, d2, d3, d4] }
  | _ => none }
def BodyLastWrongFalsely : Prop := bodyLastRow.holds Tryd.pinned (OpenSpec.ofChange bodyLastWrong)

/- THE SECOND FORM. 'bulk': how many values and letters a reading holds, each counted each time it is reached (what is shared counts as often as it is met; a slice's spare places count too). A statement '..UptoSaid' is the law's where the arguments, and the package variables that the reading takes, are together of bulk at most 1048576: NARROWER than '..Said'. Prove '..Said' where nothing that the law and all that it calls make is longer than what came in: it says more and counts as full. Else prove '..UptoSaid'. A law counts once. -/
mutual
def uptoBulk {H : Type} : DataW H → Nat
  | .lit (.string bytes) => bytes.length + 1
  | .lit _ => 1
  | .nil => 1
  | .ptr d => uptoBulk d + 1
  | .slice elems spare => uptoBulkAll elems + uptoBulkAll spare + 1
  | .agg parts => uptoBulkAll parts + 1
  | .iface _ d => uptoBulk d + 1
  | .map entries => uptoBulkEntries entries + 1
  | .held _ => 1
def uptoBulkAll {H : Type} : List (DataW H) → Nat
  | [] => 0
  | d :: r => uptoBulk d + uptoBulkAll r
def uptoBulkEntries {H : Type} : List (Lit × DataW H) → Nat
  | [] => 0
  | x :: r => uptoBulkEntry x + uptoBulkEntries r
def uptoBulkEntry {H : Type} : Lit × DataW H → Nat
  | (.string bytes, d) => bytes.length + uptoBulk d + 1
  | (_, d) => uptoBulk d + 1
 end
def uptoSmall : (H : Type) → List (DataW H) → Bool := fun _ ds => decide (uptoBulkAll ds ≤ 1048576)
def OpenSpec.upto (s : _root_.Go.ChangeSpec) : _root_.Go.OpenSpec := { _root_.Go.OpenSpec.ofChange s with cond := some uptoSmall }

/-- 'presslaw4.BodyTells', WHERE WHAT IT READS IS OF BULK AT MOST 1048576: true; the input reads as it did. -/
def bodyTellsUptoRow : OpenClaim := { program := "ytplgegffapikoaadoor", sum := "5b0c7c26ea712a53be5c69b6ed950ce7fa1c443864c2c6290c3636d7dcaed643", func := "fieldpress/presslaw4.BodyTells", spec := "bodyTells", inPlace := ["slices.overlaps[fieldpress/api.Value]"], unfollowed := true, recurses := true, named := ["unicode/utf8.first", "unicode/utf8.acceptRanges"], loops := true, apart := false, laid := [("unicode/utf8.acceptRanges", laid_unicode_utf8_acceptRanges), ("unicode/utf8.first", laid_unicode_utf8_first)], narrowed := true }
def BodyTellsUptoSaid : Prop := bodyTellsUptoRow.holds Tryd.pinned (OpenSpec.upto bodyTellsSpec)

/-- 'presslaw4.BodyThree', WHERE WHAT IT READS IS OF BULK AT MOST 1048576: true; the input reads as it did. -/
def bodyThreeUptoRow : OpenClaim := { program := "ytplgegffapikoaadoor", sum := "5b0c7c26ea712a53be5c69b6ed950ce7fa1c443864c2c6290c3636d7dcaed643", func := "fieldpress/presslaw4.BodyThree", spec := "bodyThree", inPlace := ["slices.overlaps[fieldpress/api.Value]"], unfollowed := true, recurses := true, named := ["unicode/utf8.first", "unicode/utf8.acceptRanges"], loops := true, apart := false, laid := [("unicode/utf8.acceptRanges", laid_unicode_utf8_acceptRanges), ("unicode/utf8.first", laid_unicode_utf8_first)], narrowed := true }
def BodyThreeUptoSaid : Prop := bodyThreeUptoRow.holds Tryd.pinned (OpenSpec.upto bodyThreeSpec)

/-- 'presslaw4.BodyLast', WHERE WHAT IT READS IS OF BULK AT MOST 1048576: true; the input reads as it did. -/
def bodyLastUptoRow : OpenClaim := { program := "ytplgegffapikoaadoor", sum := "5b0c7c26ea712a53be5c69b6ed950ce7fa1c443864c2c6290c3636d7dcaed643", func := "fieldpress/presslaw4.BodyLast", spec := "bodyLast", inPlace := ["slices.overlaps[fieldpress/api.Value]"], unfollowed := true, recurses := true, named := ["unicode/utf8.first", "unicode/utf8.acceptRanges"], loops := true, apart := false, laid := [("unicode/utf8.acceptRanges", laid_unicode_utf8_acceptRanges), ("unicode/utf8.first", laid_unicode_utf8_first)], narrowed := true }
def BodyLastUptoSaid : Prop := bodyLastUptoRow.holds Tryd.pinned (OpenSpec.upto bodyLastSpec)

end Rows
end Go.Proofs.YtplgegffapikoaaDoor
