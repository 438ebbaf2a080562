/-
  What a linked file is, in plain Lean.
-/
import Derived.Test.YtplgegffapikoabDoorWrongPlain
import Derived.Test.YtplgegffapikoabDoorClone
import Derived.Test.YtplgegffapikoabDoorOwn
set_option linter.unusedVariables false
namespace Go.Proofs.YtplgegffapikoabDoor
open Go.RowKit
def linkX (f : Fil) (x : Fld) : Fld := if x.kind = 10 ∧ idxP (fun m => m.name == x.type) f.msgs < 0 ∧ 0 ≤ idxP (fun e => e.name == x.type) f.enums then { x with kind := 5 } else x
def linkM (f : Fil) (m : Msg) : Msg := { m with fields := m.fields.map (linkX f) }
def linkF (f : Fil) : Fil := ⟨f.msgs.map (linkM f), f.enums⟩
def linkN (f : Fil) : Fil × Int × Nat := if (wrongN (linkF f)).1 ≠ 0 then (⟨[], []⟩, wrongN (linkF f)) else (linkF f, 0, 0)
theorem linkX_ok {S : Nat → Prop} {w : World} {f : Fil} {x : Fld} (hx : okI x.number ∧ okI x.kind ∧ okI x.choice ∧ okS x.name ∧ okS x.type) : okI (linkX f x).number ∧ okI (linkX f x).kind ∧ okI (linkX f x).choice ∧ okS (linkX f x).name ∧ okS (linkX f x).type := by
  unfold linkX
  split
  · exact ⟨hx.1, (show okI 5 from ⟨by decide, by decide⟩), hx.2.2⟩
  · exact hx
theorem eMsg : Elem Tryd.prog 22 46 3 64 (.agg #[.string .empty, .slice none 0 0, .slice none 0 0]) := ⟨Tryd.underlying22, info_parts (by kernel_rfl), rfl, by decide⟩
theorem eEnu : Elem Tryd.prog 23 72 2 40 (.agg #[.string .empty, .slice none 0 0]) := ⟨Tryd.underlying23, info_parts (by kernel_rfl), rfl, by decide⟩
end Go.Proofs.YtplgegffapikoabDoor
