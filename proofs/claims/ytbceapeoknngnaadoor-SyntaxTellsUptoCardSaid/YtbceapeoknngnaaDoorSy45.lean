/-
  A file's text as the document writes it, in plain Lean: it is the same.
-/
import Derived.Test.YtbceapeoknngnaaDoorSy39
set_option linter.unusedVariables false
namespace Go.Proofs.YtbceapeoknngnaaDoor
def fldR (last : Int) (x : Fld) : List UInt8 :=
 (if x.choice ≠ last ∧ 0 < last then sShut2 else []) ++ ((if 0 < x.choice ∧ x.choice ≠ last then sOneof else []) ++ ((if 0 < x.choice then sTwo else []) ++ (sTwo ++ lineW x)))
def preR : Int → List Fld → List UInt8 × Int
 | last, [] => ([], last)
 | last, x :: l => (fldR last x ++ (preR x.choice l).1, (preR x.choice l).2)
theorem preR_snoc (x : Fld) : ∀ (l : List Fld) (last : Int), preR last (l ++ [x]) = ((preR last l).1 ++ fldR (preR last l).2 x, x.choice)
 | [], last => by simp [preR]
 | y :: l, last => by
   rw [List.cons_append, preR, preR_snoc x l y.choice, preR]; simp [List.append_assoc]
theorem preR_fields : ∀ (l : List Fld) (last : Int), (preR last l).1 ++ (if 0 < (preR last l).2 then sShut2 else []) = (if 0 < last ∧ nextC l ≠ last then sShut2 else []) ++ fieldsF last l
 | [], last => by
   show [] ++ (if 0 < last then sShut2 else []) = (if 0 < last ∧ (0 : Int) ≠ last then sShut2 else []) ++ []
   by_cases h : 0 < last
   · rw [if_pos h, if_pos ⟨h, by omega⟩]; simp
   · rw [if_neg h, if_neg (fun g => h g.1)]
 | x :: l, last => by
   have ih := preR_fields l x.choice; rw [preR, fieldsF]; simp only; rw [List.append_assoc, ih]; unfold fldR
   have e : (if x.choice ≠ last ∧ 0 < last then sShut2 else []) = (if 0 < last ∧ nextC (x :: l) ≠ last then sShut2 else []) := by
     show _ = (if 0 < last ∧ x.choice ≠ last then sShut2 else [])
     by_cases h : 0 < last ∧ x.choice ≠ last
     · rw [if_pos h, if_pos ⟨h.2, h.1⟩]
     · rw [if_neg h, if_neg (fun g => h ⟨g.2, g.1⟩)]
   rw [e]; simp only [List.append_assoc]
theorem preR_zero (l : List Fld) : (preR 0 l).1 ++ (if 0 < (preR 0 l).2 then sShut2 else []) = fieldsF 0 l := by
 rw [preR_fields, if_neg (by simp)]; rfl
theorem barF_snoc (n : Int) : ∀ (l : List Int) (b : Bool), barF b (l ++ [n]) = barF b l ++ ((if l = [] then (if b then sBar else sComma) else sComma) ++ Lib.itoa n)
 | [], b => by simp [barF]
 | m :: l, b => by
   rw [List.cons_append, barF, barF, barF_snoc n l false, if_neg (show ¬ (m :: l = []) by simp)]
   by_cases h : l = []
   · subst h; simp [List.append_assoc]
   · rw [if_neg h]; simp [List.append_assoc]
end Go.Proofs.YtbceapeoknngnaaDoor
