/-
  Has a file a message that is one of a choice?
-/
import Derived.Test.YtplgegffapikoaaDoorPt13
set_option linter.unusedVariables false
namespace Go.Proofs.YtplgegffapikoaaDoor
open Go.RowKit
/-- Is a field a message, and one of a choice? -/
def mixedF (x : Fld) : Bool := x.kind == 10 && decide (0 < x.choice)
def mixedN (f : Fil) : Bool := f.msgs.any fun m => m.fields.any mixedF
theorem any_at {α : Type} {p : α → Bool} {l : List α} {k : Nat} (hk : k < l.length) (h : p l[k] = true) : l.any p = true := List.any_eq_true.2 ⟨_, List.getElem_mem hk, h⟩
theorem any_none {α : Type} {p : α → Bool} {l : List α} (h : ∀ j, (hj : j < l.length) → p l[j] = false) : l.any p = false := by
  rw [List.any_eq_false]
  intro x hx
  obtain ⟨j, hj, rfl⟩ := List.getElem_of_mem hx
  rw [h j hj]; decide
end Go.Proofs.YtplgegffapikoaaDoor
