/-
  NARROWER THAN 'FOR EVERY INPUT', by the rows' own cells (each row's printed sentence says how): PressTells: loops.
  DERIVED. THE GIVEN ROWS OF THIS SEAT. 7 by the template 'for every input the law returns true; each argument reads behind the call as it read before'; 0 by the template 'total and deterministic' (their statements: YtplgegffapikoaaTotals.lean).
  GIVEN WITH THE SEED: the statements are not yours to turn. If you find one false, say at which input.
  Laid BY PROGRAM, IN A SANDBOX (cutbox-rows.mjs): the forced cells as the released guide's own fill.sh prints them over the translation 2e5b1357b65f22af… (all of the seat's roots in one cut). By AI agents, Wed Nov 11 2026. No macro, syntax, notation, axiom, sorry.
-/
import Derived.Test.YtplgegffapikoaaChecked
import GoSem.Claim
import GoSem.ClaimJoined
import GoSem.ClaimMapViews
import Derived.JoinedTies
import Derived.KernelRfl
namespace Go.Proofs.Ytplgegffapikoaa
/- THE CELL 'sum', in the pinned program and in every row, IS THE sha256 OF THE DUMP (.gsa) THAT YtplgegffapikoaaProg.lean LOADS. Nothing in Lean hashes anything: it is a label: what it is worth is what the hold of that sum in a sandbox is worth. -/
noncomputable def Try.pinned : Pinned := { name := "ytplgegffapikoaa", sum := "2e5b1357b65f22af3b4b51c43bb896c9e76848a5ec6fc33d9b8b7dae4b098c43", checked := Try.checked }
namespace Rows
def none {H : Type} : Left H := { results := [], args := [] }

/-- 'presslaw1.WireNumbers': WHATEVER THE INPUT: true; the input reads as it did. -/
def wireNumbersSpec : ChangeSpec := { name := "wireNumbers", fn := fun _ => fun
  | [d1, d2] => { results := [.lit (.bool true)], args := [d1, d2] }
  | _ => none }
def wireNumbersRow : OpenClaim := { program := "ytplgegffapikoaa", sum := "2e5b1357b65f22af3b4b51c43bb896c9e76848a5ec6fc33d9b8b7dae4b098c43", func := "fieldpress/presslaw1.WireNumbers", spec := "wireNumbers", apart := false }
def WireNumbersSaid : Prop := wireNumbersRow.holds Try.pinned (OpenSpec.ofChange wireNumbersSpec)

/-- ITS FALSE NEIGHBOUR: 'it returns false'. Refute it at one input. -/
def wireNumbersWrong : ChangeSpec := { name := "wireNumbers", fn := fun _ => fun
  | [d1, d2] => { results := [.lit (.bool false)], args := [d1, d2] }
  | _ => none }
def WireNumbersWrongFalsely : Prop := wireNumbersRow.holds Try.pinned (OpenSpec.ofChange wireNumbersWrong)

/-- 'presslaw1.WireTurns': WHATEVER THE INPUT: true; the input reads as it did. -/
def wireTurnsSpec : ChangeSpec := { name := "wireTurns", fn := fun _ => fun
  | [d1, d2] => { results := [.lit (.bool true)], args := [d1, d2] }
  | _ => none }
def wireTurnsRow : OpenClaim := { program := "ytplgegffapikoaa", sum := "2e5b1357b65f22af3b4b51c43bb896c9e76848a5ec6fc33d9b8b7dae4b098c43", func := "fieldpress/presslaw1.WireTurns", spec := "wireTurns", apart := false }
def WireTurnsSaid : Prop := wireTurnsRow.holds Try.pinned (OpenSpec.ofChange wireTurnsSpec)

/-- ITS FALSE NEIGHBOUR: 'it returns false'. Refute it at one input. -/
def wireTurnsWrong : ChangeSpec := { name := "wireTurns", fn := fun _ => fun
  | [d1, d2] => { results := [.lit (.bool false)], args := [d1, d2] }
  | _ => none }
def WireTurnsWrongFalsely : Prop := wireTurnsRow.holds Try.pinned (OpenSpec.ofChange wireTurnsWrong)

/-- 'presslaw1.WireJoined': WHATEVER THE INPUT: true; the input reads as it did. -/
def wireJoinedSpec : ChangeSpec := { name := "wireJoined", fn := fun _ => fun
  | [d1, d2] => { results := [.lit (.bool true)], args := [d1, d2] }
  | _ => none }
def wireJoinedRow : OpenClaim := { program := "ytplgegffapikoaa", sum := "2e5b1357b65f22af3b4b51c43bb896c9e76848a5ec6fc33d9b8b7dae4b098c43", func := "fieldpress/presslaw1.WireJoined", spec := "wireJoined", apart := false }
def WireJoinedSaid : Prop := wireJoinedRow.holds Try.pinned (OpenSpec.ofChange wireJoinedSpec)

/-- ITS FALSE NEIGHBOUR: 'it returns false'. Refute it at one input. -/
def wireJoinedWrong : ChangeSpec := { name := "wireJoined", fn := fun _ => fun
  | [d1, d2] => { results := [.lit (.bool false)], args := [d1, d2] }
  | _ => none }
def WireJoinedWrongFalsely : Prop := wireJoinedRow.holds Try.pinned (OpenSpec.ofChange wireJoinedWrong)

/-- 'presslaw3.LinkTells': WHATEVER THE INPUT: true; the input reads as it did. -/
def linkTellsSpec : ChangeSpec := { name := "linkTells", fn := fun _ => fun
  | [d1, d2] => { results := [.lit (.bool true)], args := [d1, d2] }
  | _ => none }
def linkTellsRow : OpenClaim := { program := "ytplgegffapikoaa", sum := "2e5b1357b65f22af3b4b51c43bb896c9e76848a5ec6fc33d9b8b7dae4b098c43", func := "fieldpress/presslaw3.LinkTells", spec := "linkTells", unfollowed := true, recurses := true, apart := false }
def LinkTellsSaid : Prop := linkTellsRow.holds Try.pinned (OpenSpec.ofChange linkTellsSpec)

/-- ITS FALSE NEIGHBOUR: 'it returns false'. Refute it at one input. -/
def linkTellsWrong : ChangeSpec := { name := "linkTells", fn := fun _ => fun
  | [d1, d2] => { results := [.lit (.bool false)], args := [d1, d2] }
  | _ => none }
def LinkTellsWrongFalsely : Prop := linkTellsRow.holds Try.pinned (OpenSpec.ofChange linkTellsWrong)

/-- 'presstop.Names': WHATEVER THE INPUT: true; the input reads as it did. -/
def namesSpec : ChangeSpec := { name := "names", fn := fun _ => fun
  | [] => { results := [.lit (.bool true)], args := [] }
  | _ => none }
def namesRow : OpenClaim := { program := "ytplgegffapikoaa", sum := "2e5b1357b65f22af3b4b51c43bb896c9e76848a5ec6fc33d9b8b7dae4b098c43", func := "fieldpress/presstop.Names", spec := "names", apart := false }
def NamesSaid : Prop := namesRow.holds Try.pinned (OpenSpec.ofChange namesSpec)

/-- ITS FALSE NEIGHBOUR: 'it returns false'. Refute it at one input. -/
def namesWrong : ChangeSpec := { name := "names", fn := fun _ => fun
  | [] => { results := [.lit (.bool false)], args := [] }
  | _ => none }
def NamesWrongFalsely : Prop := namesRow.holds Try.pinned (OpenSpec.ofChange namesWrong)

/-- 'presslaw6.PressTells': WHATEVER THE INPUT: true; the input reads as it did. -/
def pressTellsSpec : ChangeSpec := { name := "pressTells", fn := fun _ => fun
  | [d1, d2, d3, d4] => { results := [.lit (.bool true)], args := [d1, d2, d3, d4] }
  | _ => none }
def pressTellsRow : OpenClaim := { program := "ytplgegffapikoaa", sum := "2e5b1357b65f22af3b4b51c43bb896c9e76848a5ec6fc33d9b8b7dae4b098c43", func := "fieldpress/presslaw6.PressTells", spec := "pressTells", unfollowed := true, recurses := true, loops := true, apart := false }
def PressTellsSaid : Prop := pressTellsRow.holds Try.pinned (OpenSpec.ofChange pressTellsSpec)

/-- ITS FALSE NEIGHBOUR: 'it returns false'. Refute it at one input. -/
def pressTellsWrong : ChangeSpec := { name := "pressTells", fn := fun _ => fun
  | [d1, d2, d3, d4] => { results := [.lit (.bool false)], args := [d1, d2, d3, d4] }
  | _ => none }
def PressTellsWrongFalsely : Prop := pressTellsRow.holds Try.pinned (OpenSpec.ofChange pressTellsWrong)

/-- 'presslaw6.PressRight': WHATEVER THE INPUT: true; the input reads as it did. -/
def pressRightSpec : ChangeSpec := { name := "pressRight", fn := fun _ => fun
  | [d] => { results := [.lit (.bool true)], args := [d] }
  | _ => none }
def pressRightRow : OpenClaim := { program := "ytplgegffapikoaa", sum := "2e5b1357b65f22af3b4b51c43bb896c9e76848a5ec6fc33d9b8b7dae4b098c43", func := "fieldpress/presslaw6.PressRight", spec := "pressRight", unfollowed := true, recurses := true, apart := false }
def PressRightSaid : Prop := pressRightRow.holds Try.pinned (OpenSpec.ofChange pressRightSpec)

/-- ITS FALSE NEIGHBOUR: 'it returns false'. Refute it at one input. -/
def pressRightWrong : ChangeSpec := { name := "pressRight", fn := fun _ => fun
  | [d] => { results := [.lit (.bool false)], args := [d] }
  | _ => none }
def PressRightWrongFalsely : Prop := pressRightRow.holds Try.pinned (OpenSpec.ofChange pressRightWrong)

/- THE SECOND FORM. 'bulk': how many values and letters a reading holds, each counted each time it is reached (what is shared counts as often as it is met; a slice's spare places count too). A statement '..UptoSaid' is the law's where the arguments, and the package variables that the reading takes, are together of bulk at most 1048576: NARROWER than '..Said'. Prove '..Said' where nothing that the law and all that it calls make is longer than what came in: it says more and counts as full. Else prove '..UptoSaid'. A law counts once. -/
mutual
def uptoBulk {H : Type} : DataW H → Nat
  | .lit (.string bytes) => bytes.length + 1
  | .lit _ => 1
  | .nil => 1
  | .ptr d => uptoBulk d + 1
  | .slice elems spare => uptoBulkAll elems + uptoBulkAll spare + 1
  | .agg parts => uptoBulkAll parts + 1
  | .iface _ d => uptoBulk d + 1
  | .map entries => uptoBulkEntries entries + 1
  | .held _ => 1
def uptoBulkAll {H : Type} : List (DataW H) → Nat
  | [] => 0
  | d :: r => uptoBulk d + uptoBulkAll r
def uptoBulkEntries {H : Type} : List (Lit × DataW H) → Nat
  | [] => 0
  | x :: r => uptoBulkEntry x + uptoBulkEntries r
def uptoBulkEntry {H : Type} : Lit × DataW H → Nat
  | (.string bytes, d) => bytes.length + uptoBulk d + 1
  | (_, d) => uptoBulk d + 1
 end
def uptoSmall : (H : Type) → List (DataW H) → Bool := fun _ ds => decide (uptoBulkAll ds ≤ 1048576)
def OpenSpec.upto (s : _root_.Go.ChangeSpec) : _root_.Go.OpenSpec := { _root_.Go.OpenSpec.ofChange s with cond := some uptoSmall }

/-- 'presslaw1.WireNumbers', WHERE WHAT IT READS IS OF BULK AT MOST 1048576: true; the input reads as it did. -/
def wireNumbersUptoRow : OpenClaim := { program := "ytplgegffapikoaa", sum := "2e5b1357b65f22af3b4b51c43bb896c9e76848a5ec6fc33d9b8b7dae4b098c43", func := "fieldpress/presslaw1.WireNumbers", spec := "wireNumbers", apart := false, narrowed := true }
def WireNumbersUptoSaid : Prop := wireNumbersUptoRow.holds Try.pinned (OpenSpec.upto wireNumbersSpec)

/-- 'presslaw1.WireTurns', WHERE WHAT IT READS IS OF BULK AT MOST 1048576: true; the input reads as it did. -/
def wireTurnsUptoRow : OpenClaim := { program := "ytplgegffapikoaa", sum := "2e5b1357b65f22af3b4b51c43bb896c9e76848a5ec6fc33d9b8b7dae4b098c43", func := "fieldpress/presslaw1.WireTurns", spec := "wireTurns", apart := false, narrowed := true }
def WireTurnsUptoSaid : Prop := wireTurnsUptoRow.holds Try.pinned (OpenSpec.upto wireTurnsSpec)

/-- 'presslaw1.WireJoined', WHERE WHAT IT READS IS OF BULK AT MOST 1048576: true; the input reads as it did. -/
def wireJoinedUptoRow : OpenClaim := { program := "ytplgegffapikoaa", sum := "2e5b1357b65f22af3b4b51c43bb896c9e76848a5ec6fc33d9b8b7dae4b098c43", func := "fieldpress/presslaw1.WireJoined", spec := "wireJoined", apart := false, narrowed := true }
def WireJoinedUptoSaid : Prop := wireJoinedUptoRow.holds Try.pinned (OpenSpec.upto wireJoinedSpec)

/-- 'presslaw3.LinkTells', WHERE WHAT IT READS IS OF BULK AT MOST 1048576: true; the input reads as it did. -/
def linkTellsUptoRow : OpenClaim := { program := "ytplgegffapikoaa", sum := "2e5b1357b65f22af3b4b51c43bb896c9e76848a5ec6fc33d9b8b7dae4b098c43", func := "fieldpress/presslaw3.LinkTells", spec := "linkTells", unfollowed := true, recurses := true, apart := false, narrowed := true }
def LinkTellsUptoSaid : Prop := linkTellsUptoRow.holds Try.pinned (OpenSpec.upto linkTellsSpec)

/-- 'presstop.Names', WHERE WHAT IT READS IS OF BULK AT MOST 1048576: true; the input reads as it did. -/
def namesUptoRow : OpenClaim := { program := "ytplgegffapikoaa", sum := "2e5b1357b65f22af3b4b51c43bb896c9e76848a5ec6fc33d9b8b7dae4b098c43", func := "fieldpress/presstop.Names", spec := "names", apart := false, narrowed := true }
def NamesUptoSaid : Prop := namesUptoRow.holds Try.pinned (OpenSpec.upto namesSpec)

/-- 'presslaw6.PressTells', WHERE WHAT IT READS IS OF BULK AT MOST 1048576: true; the input reads as it did. -/
def pressTellsUptoRow : OpenClaim := { program := "ytplgegffapikoaa", sum := "2e5b1357b65f22af3b4b51c43bb896c9e76848a5ec6fc33d9b8b7dae4b098c43", func := "fieldpress/presslaw6.PressTells", spec := "pressTells", unfollowed := true, recurses := true, loops := true, apart := false, narrowed := true }
def PressTellsUptoSaid : Prop := pressTellsUptoRow.holds Try.pinned (OpenSpec.upto pressTellsSpec)

/-- 'presslaw6.PressRight', WHERE WHAT IT READS IS OF BULK AT MOST 1048576: true; the input reads as it did. -/
def pressRightUptoRow : OpenClaim := { program := "ytplgegffapikoaa", sum := "2e5b1357b65f22af3b4b51c43bb896c9e76848a5ec6fc33d9b8b7dae4b098c43", func := "fieldpress/presslaw6.PressRight", spec := "pressRight", unfollowed := true, recurses := true, apart := false, narrowed := true }
def PressRightUptoSaid : Prop := pressRightUptoRow.holds Try.pinned (OpenSpec.upto pressRightSpec)

end Rows
end Go.Proofs.Ytplgegffapikoaa
