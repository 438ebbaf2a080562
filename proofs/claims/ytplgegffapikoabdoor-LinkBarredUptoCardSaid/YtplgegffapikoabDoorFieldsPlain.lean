/-
  How many choices begin: one field more.
-/
import Derived.Test.YtplgegffapikoabDoorLinkPlain
set_option linter.unusedVariables false
namespace Go.Proofs.YtplgegffapikoabDoor
open Go.RowKit
def lastD : Int → List Fld → Int
  | last, [] => last
  | _, y :: l => lastD y.choice l
theorem begun_snoc : ∀ (l : List Fld) (last : Int) (y : Fld), begun last (l ++ [y]) = begun last l + (if y.choice ≠ 0 ∧ y.choice ≠ lastD last l then 1 else 0)
  | [], last, y => by
    simp only [List.nil_append, begun, lastD]
    omega
  | z :: l, last, y => by
    have ih := begun_snoc l z.choice y
    simp only [List.cons_append, begun, lastD]
    rw [ih]
    omega
theorem lastD_eq : ∀ (l : List Fld) (last : Int), lastD last l = match l.getLast? with | some z => z.choice | none => last
  | [], last => rfl
  | [z], last => rfl
  | z :: y :: l, last => by
    have ih := lastD_eq (y :: l) z.choice
    rw [lastD, ih, List.getLast?_cons_cons]
    cases h : (y :: l).getLast? with
    | none => simp at h
    | some u => rfl
theorem begun_take {l : List Fld} {k : Nat} (hk : k < l.length) : begun 0 (l.take (k + 1)) = begun 0 (l.take k) + (if l[k].choice ≠ 0 ∧ l[k].choice ≠ lastC (l.take k) then 1 else 0) := by
  rw [List.take_succ_eq_append_getElem hk, begun_snoc, lastD_eq]
  rfl
theorem begun_bd : ∀ (l : List Fld) (last : Int), 0 ≤ begun last l ∧ begun last l ≤ l.length
  | [], _ => by simp [begun]
  | z :: l, last => by
    have ih := begun_bd l z.choice
    simp only [begun, List.length_cons]
    split <;> omega
theorem lastC_take {l : List Fld} {k : Nat} (h0 : 0 < k) (hk : k ≤ l.length) : lastC (l.take k) = (l[k - 1]'(by omega)).choice := by
  unfold lastC
  rw [List.getLast?_eq_getElem?, List.length_take, Nat.min_eq_left hk, List.getElem?_take_of_lt (by omega), List.getElem?_eq_getElem (by omega)]
end Go.Proofs.YtplgegffapikoabDoor
